import Derived.Test.YtehcmedeeaoebaaM4
import Derived.SizedLaws
import Derived.Test.YtehcmedeeaoebaaM2
import Derived.Test.YtehcmedeeaoebaaM1
import Derived.WalkSpells
import Derived.WalkLawsBesides
import Derived.Test.YtehcmedeeaoebaaM0
import Derived.StillTailTactics
section
namespace Go.Proofs.Ytehcmedeeaoebaa.PB
open Go.ChangeAt Go.Joins Go.Deep Go.WideShapes Go.ChangeShapes
open Go.RowKit Go.Proofs.YtehcmedeeaoebaaW.PrintWords Go.Proofs.YtehcmedeeaoebaaW.PrintLast Go.Proofs.YtehcmedeeaoebaaW.PrintMore
instance : Inhabited S67 := ⟨⟨⟨#[]⟩, []⟩⟩
def light {H : Type} (t : TypeId) (d : DataW H) : Prop := ∀ n ∈ d.weights Try.prog t, n ≤ 140737488351232
def OpensW (W : World) {α : Type} (t : TypeId) (d : Kd α) (P : α → Prop) : Prop :=
  ∀ (H : Type) (enc : TypeId × Value → H) (n : Nat) (cs : List Value) (x : DataW H × List MemPlace), DataW.trod enc Try.prog W 0 (fun _ => true) true n t cs = some x → light t x.1 → ∃ a, d.K W a cs ∧ P a
def w69 (x : S69) : Prop := x.f0.size ≤ 140737488351232 ∧ x.f1.size ≤ 140737488351232
def w80 (x : S80) : Prop := (-9223372036854775808 ≤ x.f0 ∧ x.f0 ≤ 9223372036854775807) ∧ x.f1.size ≤ 140737488351232
def w67 (x : S67) : Prop := x.f0.size ≤ 140737488351232 ∧ x.f1.length ≤ 140737488351232 ∧ ∀ v ∈ x.f1, w80 v
theorem weights_agg2 {H : Type} {t : TypeId} {f0 f1 : Field} (ht : Try.prog.underlying t = some (.struct #[f0, f1])) (a b : DataW H) : (DataW.agg [a, b]).weights Try.prog t = a.weights Try.prog f0.type ++ b.weights Try.prog f1.type := by
  rw [DataW.weights, ht]; simp [DataW.weightsEach]
theorem weights_agg3 {H : Type} {t : TypeId} {f0 f1 f2 : Field} (ht : Try.prog.underlying t = some (.struct #[f0, f1, f2])) (a b c : DataW H) : (DataW.agg [a, b, c]).weights Try.prog t = a.weights Try.prog f0.type ++ (b.weights Try.prog f1.type ++ c.weights Try.prog f2.type) := by
  rw [DataW.weights, ht]; simp [DataW.weightsEach]
theorem weights_all {H : Type} {e : TypeId} : ∀ {l : List (DataW H)} {d : DataW H}, d ∈ l → ∀ n ∈ d.weights Try.prog e, n ∈ DataW.weightsAll Try.prog e l
  | [], d, h, _, _ => by cases h
  | a :: l, d, h, n, hn => by
    rw [DataW.weightsAll]
    rcases List.mem_cons.1 h with rfl | h
    · exact List.mem_append_left _ hn
    · exact List.mem_append_right _ (weights_all h n hn)
theorem weights_str {H : Type} (t : TypeId) (s : List UInt8) : (DataW.lit (H := H) (.string s)).weights Try.prog t = [s.length] := by rw [DataW.weights]
theorem opensW69 (W : World) : OpensW W 69 k69 w69 := by
  intro H enc n cs x h hw
  obtain ⟨y0, y1, m, rfl, hl, h0, h1⟩ := trod_struct2 Try.underlying69 h
  obtain ⟨a, b, rfl⟩ := len2 (hl.trans c69)
  obtain ⟨s0, e0, rfl, _⟩ := DataW.trod_string Try.underlying9 h0
  obtain ⟨s1, e1, rfl, _⟩ := DataW.trod_string Try.underlying9 h1
  simp only [c9, List.drop_zero, List.drop_succ_cons, List.take_succ_cons, List.take_zero, List.cons.injEq, and_true] at e0 e1
  subst e0 e1
  unfold light at hw
  rw [weights_agg2 Try.underlying69, weights_str, weights_str] at hw
  have b0 := hw s0.data.toList.length (by simp)
  have b1 := hw s1.data.toList.length (by simp)
  rw [Array.length_toList] at b0 b1
  exact ⟨⟨s0, s1⟩, k69_mk W _, ⟨b0, b1⟩⟩
theorem opensW80 (W : World) : OpensW W 80 k80 w80 := by
  intro H enc n cs x h hw
  obtain ⟨y0, y1, y2, m, rfl, hl, h0, h1, h2⟩ := trod_struct3 Try.underlying80 h
  obtain ⟨a, b, c, rfl⟩ := len3 (hl.trans c80)
  obtain ⟨s0, e0, rfl, b0⟩ := DataW.trod_int Try.underlying3 h0
  obtain ⟨s1, e1, rfl, _⟩ := DataW.trod_string Try.underlying9 h1
  obtain ⟨s2, e2, _⟩ := DataW.trod_bool Try.underlying4 h2
  simp only [c3, c9, c4, List.drop_zero, List.drop_succ_cons, List.take_succ_cons, List.take_zero, List.cons.injEq, and_true] at e0 e1 e2
  subst e0 e1 e2
  unfold light at hw
  rw [weights_agg3 Try.underlying80, weights_str] at hw
  have b1 := hw s1.data.toList.length (by simp)
  rw [Array.length_toList] at b1
  have b2 : (-9223372036854775808 ≤ s0 ∧ s0 ≤ 9223372036854775807) := by
    simp [Lit.wf, IntKind.min, IntKind.max, IntKind.bits, IntKind.signed] at b0
    omega
  exact ⟨⟨s0, s1, s2⟩, k80_mk W _, ⟨b2, b1⟩⟩
theorem opensW_slice {W : World} {α : Type} [Inhabited α] {P : α → Prop} {t e : TypeId} {d : Kd α} (ht : Try.prog.underlying t = some (.slice e)) (hc : Try.prog.cellsOf e = d.sz) (hb1 : 0 < Try.prog.bytesOf e) (ho : OpensW W e d P)
    {H : Type} {enc : TypeId × Value → H} {n : Nat} {cs : List Value} {x : DataW H × List MemPlace} (h : DataW.trod enc Try.prog W 0 (fun _ => true) true n t cs = some x) (hw : light t x.1) :
    ∃ A c xs, cs = [.slice A xs.length c] ∧ xs.length ≤ c ∧ Kd.C d W A xs.length xs ∧ (∀ x ∈ xs, P x) ∧ xs.length ≤ 140737488351232 := by
  rcases open_slice ht h with ⟨rfl, _⟩ | ⟨a, len, cap, m, k, D, Pl, rfl, hb, hl, hm, hmm, rfl, hx⟩
  · exact ⟨none, 0, [], rfl, Nat.le_refl _, ⟨rfl, by simp, fun h => absurd h (by simp)⟩, by simp, by simp⟩
  simp only [if_true] at hmm
  subst hmm
  unfold light at hw
  rw [DataW.weights, ht] at hw
  simp only at hw
  have hwl := hw _ List.mem_cons_self
  have hwe : ∀ i, i < len → light e (D i) := by
    intro i hi q hq
    refine hw q (List.mem_cons_of_mem _ (List.mem_append_left _ (weights_all (List.mem_map.2 ⟨i, List.mem_range.2 hi, rfl⟩) q hq)))
  have H1 : ∀ i, ∃ p : α × List Value, i < len → p.2.length = d.sz ∧ d.K W p.1 p.2 ∧ P p.1 ∧ ∀ j u, p.2[j]? = some u → W.cell? (a.add (i * d.sz + j)) = some u := by
    intro i
    by_cases hi : i < len
    · obtain ⟨cs', h1, h2⟩ := hx i (by omega)
      obtain ⟨q, hq, hP⟩ := ho H enc k cs' _ h2 (hwe i hi)
      obtain ⟨_, hlen, hcell⟩ := World.cells?_some h1
      rw [hc] at hlen hcell
      refine ⟨(q, cs'), fun _ => ⟨hlen, hq, hP, fun j u hu => ?_⟩⟩
      have hj : j < cs'.length := (List.getElem?_eq_some_iff.1 hu).1
      have := hcell j (by omega)
      rw [hu, Addr.add_add] at this
      exact this
    · exact ⟨(default, []), fun h => absurd h hi⟩
  obtain ⟨F, hF⟩ := Classical.axiomOfChoice H1
  refine ⟨some a, m, (List.range len).map fun i => (F i).1, by simp, by simpa using hl, ⟨rfl, by simp; simp only [maxLen] at hm; omega, fun _ => ⟨a, rfl, fun j p hp => ?_⟩⟩, fun x hx => ?_, ?_⟩
  · have hj : j < len := by have := (List.getElem?_eq_some_iff.1 hp).1; simpa using this
    simp only [List.getElem?_map, List.getElem?_range hj, Option.map_some, Option.some.injEq] at hp
    obtain ⟨h1, h2, _, h3⟩ := hF j hj
    subst hp
    exact ⟨(F j).2, h1, h2, h3⟩
  · obtain ⟨i, hi, rfl⟩ := List.mem_map.1 hx
    exact (hF i (List.mem_range.1 hi)).2.2.1
  · simp only [List.length_map, List.length_range] at hwl ⊢
    have : len * 1 ≤ (len + (m - len)) * Try.prog.bytesOf e := Nat.mul_le_mul (by omega) hb1
    omega
theorem by80 : 0 < Try.prog.bytesOf 80 := by rw [show Try.prog.bytesOf 80 = 32 by kernel_rfl]; omega
theorem by69 : 0 < Try.prog.bytesOf 69 := by rw [show Try.prog.bytesOf 69 = 32 by kernel_rfl]; omega
theorem by67 : 0 < Try.prog.bytesOf 67 := by rw [show Try.prog.bytesOf 67 = 40 by kernel_rfl]; omega
theorem opensW67 (W : World) : OpensW W 67 k67 w67 := by
  intro H enc n cs x h hw
  obtain ⟨y0, y1, m, rfl, hl, h0, h1⟩ := trod_struct2 Try.underlying67 h
  obtain ⟨a, b, rfl⟩ := len2 (hl.trans c67)
  obtain ⟨s0, e0, rfl, _⟩ := DataW.trod_string Try.underlying9 h0
  unfold light at hw
  rw [weights_agg2 Try.underlying67, weights_str] at hw
  have b0 := hw s0.data.toList.length (by simp)
  rw [Array.length_toList] at b0
  obtain ⟨A, c, xs, e1, hle, hC, hP, hn⟩ := opensW_slice Try.underlying65 c80 by80 (opensW80 W) h1 (fun q hq => hw q (List.mem_append_right _ hq))
  simp only [c9, c65, List.drop_zero, List.drop_succ_cons, List.take_succ_cons, List.take_zero, List.cons.injEq, and_true] at e0 e1
  subst e0 e1
  exact ⟨⟨s0, xs⟩, k67_mk W _ hle hC, ⟨b0, hn, hP⟩⟩
theorem light_of {H : Type} {ts : List TypeId} {ds : List (DataW H)} (h : (DataW.weightsEach Try.prog ts ds).all (· ≤ reachBytes) = true) {j : Nat} {t : TypeId} {d : DataW H} (ht : ts[j]? = some t) (hd : ds[j]? = some d) : light t d := by
  intro n hn
  have := List.all_eq_true.1 h n (DataW.weights_mem_each ht hd n hn)
  have h2 : n ≤ reachBytes := of_decide_eq_true this
  simpa [reachBytes] using h2
end Go.Proofs.Ytehcmedeeaoebaa.PB
end
section
namespace Go.Proofs.Ytehcmedeeaoebaa.PB
open Go.RowKit Go.Proofs.YtehcmedeeaoebaaW.PrintWords Go.Proofs.YtehcmedeeaoebaaW.PrintLast Go.Proofs.YtehcmedeeaoebaaW.PrintMore
set_option linter.unusedVariables false
set_option linter.unusedSimpArgs false
def vsOk (vs : List S80) : Bool := vs.all fun v => decide (v.f1.size ≤ 9223372036854775806 ∧ 0 ≤ v.f0 ∧ v.f0 ≤ 1152921504606846976)
def pairsRow (key : ByteArray) (vs : List S80) : List S69 := vs.map fun v => ⟨pairKey key v.f0, pairVal v⟩
def itemAt (l : List S67) (i : Nat) : S67 := l.getD i z67
def pairsL (k : Nat) (l : List S67) : Nat → Nat → List S69 → Option (List S69 × Int)
  | 0, _, acc => some (sortP acc, 0)
  | n + 1, i, acc => (batch_may.f k (itemAt l i).f0 (itemAt l i).f1).bind fun b =>
      if b = true then if 0 < i ∧ ltS (itemAt l (i - 1)).f0 (itemAt l i).f0 = false then some ([], 2)
        else if (itemAt l i).f0.size ≤ 120 ∧ vsOk (itemAt l i).f1 = true ∧ acc.length + (itemAt l i).f1.length ≤ 4398046511103 then pairsL k l n (i + 1) (acc ++ pairsRow (itemAt l i).f0 (itemAt l i).f1) else none
      else some ([], 2)
def batch_Pairs.f (k : Nat) (l0 : List S67) : Option (List S69 × Int) := pairsL k l0 l0.length 0 []
theorem rdT67_get (l : List S67) (i : Nat) : rd_T67 l (i : Int) = itemAt l i := by simp [rd_T67, itemAt]
theorem pairsRow_take (key : ByteArray) (vs : List S80) (j : Nat) (h : j < vs.length) : pairsRow key (vs.take (j + 1)) = pairsRow key (vs.take j) ++ [⟨pairKey key vs[j].f0, pairVal vs[j]⟩] := by
  unfold pairsRow; rw [List.take_succ_eq_append_getElem h, List.map_append]; rfl
set_option maxHeartbeats 8000000 in
set_option maxRecDepth 100000 in
theorem batch_Pairs.calls (k : Nat) (A0 : Option Addr) (c0 : Nat) (l0 : List (S67)) (r1 : List (S69)) (r2 : Int) (w : World) (hr0 : Kd.C k67 w A0 l0.length l0) (hc0 : l0.length ≤ c0) (h : batch_Pairs.f k l0 = some (r1, r2)) :
    Calls Try.prog 28 #[.slice A0 l0.length c0] w fun e w' => ∃ v0_ : Value, e = .returned (.tuple #[v0_, .int .i64 r2]) ∧ Kd.R k69 69 w' w.heap.size (fun _ => True) v0_ r1 ∧ Below w.heap.size w w' := by
  have hl := hr0.2.1
  have HC := Aside0.mk hr0
  have HF := Aside0.mk (show pairsL k l0 (l0.length - 0) 0 [] = some (r1, r2) from h)
  clear hr0 h
  go_enter Try.func28, Try.ntmps28
  go_wp2
  go_loopg [4, 11] l0.length (fun gg s4 s11 wr => ∃ (i : Nat) (acc : List S69), i ≤ l0.length ∧ acc.length ≤ 4398046511103 ∧ l0.length - i ≤ gg ∧ s11 = .int .i64 i ∧ Aside0 (Below w.heap.size w wr) ∧ Aside0 (Kd.R k69 69 wr w.heap.size (fun _ => True) s4 acc) ∧ Aside0 (pairsL k l0 (l0.length - i) i acc = some (r1, r2)))
  case atStart => exact ⟨0, [], Nat.zero_le _, by simp, by omega, rfl, ⟨Below.refl _ _⟩, ⟨Kd.R_nil _ _ _ _ _⟩, HF⟩
  case round =>
    obtain ⟨i, acc, hi, hal, hgi, rfl, HB, HR, HF⟩ := hrel
    have HAL := Aside0.mk hal
    clear hal
    by_cases hil : i < l0.length
    · have hiz : (i : Int) < (l0.length : Int) := by omega
      obtain ⟨n, hn⟩ : ∃ n, l0.length - i = n + 1 := ⟨l0.length - i - 1, by omega⟩
      obtain ⟨ad, A1, c1, e, h0, h1, h2, h3⟩ := at_T67 HC.out (i : Int) (by omega) hiz
      cases e
      rw [rdT67_get] at h0 h1 h2 h3
      simp only [Int.toNat_natCast] at h0 h1 h2 h3
      have HF0 := HF.out
      rw [hn, pairsL] at HF0
      obtain ⟨b, hmy, HF0⟩ := Option.bind_eq_some_iff.1 HF0
      obtain ⟨key, hkey⟩ : ∃ q, (itemAt l0 i).f0 = q := ⟨_, rfl⟩
      obtain ⟨vs, hvs⟩ : ∃ q, (itemAt l0 i).f1 = q := ⟨_, rfl⟩
      rw [hkey, hvs] at hmy HF0
      rw [hkey] at h0
      rw [hvs] at h1 h2 h3
      replace h0 := (HB.out.cell (World.block_lt_of_cell? w _ h0)).trans h0
      replace h1 := (HB.out.cell (World.block_lt_of_cell? w _ h1)).trans h1
      have HMY := Aside0.mk hmy
      have HLV := Aside0.mk h2
      have HCV : Aside0 (∀ W, Below w.heap.size w W → Kd.C k80 W A1 vs.length vs) := ⟨fun W hb => Kd.C_below h3 hb⟩
      clear hmy h2 h3 hkey hvs HF
      cases b with
      | false =>
        rw [if_neg (by simp)] at HF0
        simp only [Option.some.injEq, Prod.mk.injEq] at HF0
        obtain ⟨rfl, rfl⟩ := HF0
        go_wp2_with (first | ((with_reducible refine gate_dst (N := 6) rfl ?_); refine box_event ?hg (N := 6) ?hd (cs := #[.string ⟨#[]⟩, .slice none 0 0]) (t := 67) ?hr ?_; (case hd => rfl); (case hg => rfl); (case hr => first | (go_simp; done) | (go_simp; rfl)); intro g6 hg w1 hbox hb; have G6 := Aside0.mk (show w.heap.size ≤ g6 from (by rw [hg]; exact HB.out.size)); have B6 := Aside0.mk hbox; clear hbox hg; have n0_ := Aside0.mk (below_then HB.out HB.out.size hb); have n1_ := Aside0.mk (Kd.R_below HR.out hb); clear HB HR; have HB := n0_; have HR := n1_; clear n0_ n1_; clear hb) | ((with_reducible refine gate_store (t := 67) (p := 6) (v := .tmp 15) rfl ?_); go_must (refine sagg_event rfl 67 (.tmp 6) (.tmp 15) rfl rfl g6 #[.string key, .slice A1 vs.length c1] _ _ rfl rfl B6.out (by kernel_rfl) rfl rfl ?_); intro w2 hbk hu; have nR_ := Aside0.mk (Kd.R_mono (Kd.R_step (Kd.R_types HR.out B6.out (by decide)) (fun k_ hk_ _ => hu.block k_ hk_.2)) (fun _ hk_ => hk_.1)); clear HR; have HR := nR_; clear nR_; have n0_ := Aside0.mk (hu.below HB.out G6.out); clear HB; have HB := n0_; clear n0_; clear B6; have B6 := Aside0.mk hbk; have c60 := (blk_cell B6.out 0).trans rfl; have c61 := (blk_cell B6.out 1).trans rfl; clear hbk hu))
        have hB1 := HB.out
        have hR1 := HR.out
        have qk : ∀ p : Held (fun w' => w'.cell? ⟨g6, 0, none⟩ = some (.string key) ∧ w'.cell? ⟨g6, 1, none⟩ = some (.slice A1 vs.length c1) ∧ w'.heap[g6]? = some (.cells #[.string key, .slice A1 vs.length c1] 67 (0, 0)) ∧ Kd.R k69 69 w' w.heap.size (fun _ => True) u4 acc ∧ Below w.heap.size w w'), p.w.cell? ⟨g6, 0, none⟩ = some (.string key) := fun p => p.h.1
        have qv : ∀ p : Held (fun w' => w'.cell? ⟨g6, 0, none⟩ = some (.string key) ∧ w'.cell? ⟨g6, 1, none⟩ = some (.slice A1 vs.length c1) ∧ w'.heap[g6]? = some (.cells #[.string key, .slice A1 vs.length c1] 67 (0, 0)) ∧ Kd.R k69 69 w' w.heap.size (fun _ => True) u4 acc ∧ Below w.heap.size w w'), p.w.cell? ⟨g6, 1, none⟩ = some (.slice A1 vs.length c1) := fun p => p.h.2.1
        have HSK := Aside0.mk (fun (p : Held (fun w' => w'.cell? ⟨g6, 0, none⟩ = some (.string key) ∧ w'.cell? ⟨g6, 1, none⟩ = some (.slice A1 vs.length c1) ∧ w'.heap[g6]? = some (.cells #[.string key, .slice A1 vs.length c1] 67 (0, 0)) ∧ Kd.R k69 69 w' w.heap.size (fun _ => True) u4 acc ∧ Below w.heap.size w w')) (w' : World) (hb : Below p.w.heap.size p.w w') => show (fun w' => w'.cell? ⟨g6, 0, none⟩ = some (.string key) ∧ w'.cell? ⟨g6, 1, none⟩ = some (.slice A1 vs.length c1) ∧ w'.heap[g6]? = some (.cells #[.string key, .slice A1 vs.length c1] 67 (0, 0)) ∧ Kd.R k69 69 w' w.heap.size (fun _ => True) u4 acc ∧ Below w.heap.size w w') w' from ⟨pw_cell_below hb p.h.1, pw_cell_below hb p.h.2.1, (hb.block _ (blk_lt (p.h.2.2.1))).trans (p.h.2.2.1), Kd.R_below (p.h.2.2.2.1) hb, below_then (p.h.2.2.2.2) (Below.size (p.h.2.2.2.2)) hb⟩)
        have HCL := Aside0.mk (fun (p : Held (fun w' => w'.cell? ⟨g6, 0, none⟩ = some (.string key) ∧ w'.cell? ⟨g6, 1, none⟩ = some (.slice A1 vs.length c1) ∧ w'.heap[g6]? = some (.cells #[.string key, .slice A1 vs.length c1] 67 (0, 0)) ∧ Kd.R k69 69 w' w.heap.size (fun _ => True) u4 acc ∧ Below w.heap.size w w')) => Held.call (batch_may.calls k key A1 c1 vs false p.w (HCV.out _ (p.h.2.2.2.2)) HLV.out HMY.out) (HSK.out p))
        refine wp_region_quiet_held (fun w' => w'.cell? ⟨g6, 0, none⟩ = some (.string key) ∧ w'.cell? ⟨g6, 1, none⟩ = some (.slice A1 vs.length c1) ∧ w'.heap[g6]? = some (.cells #[.string key, .slice A1 vs.length c1] 67 (0, 0)) ∧ Kd.R k69 69 w' w.heap.size (fun _ => True) u4 acc ∧ Below w.heap.size w w') (by kernel_rfl) (by kernel_rfl) ⟨c60, c61, B6.out, Kd.R_drew hR1, below_drew hB1⟩ ?_
        clear hB1 hR1
        repeat ((with_reducible refine wpQuiet_step (fun K hK => ?_)); go_simp; (try rw [if_neg (fun h => by cases h)]); first | (with_reducible refine hK _ ?_; clear hK K) | (apply Exists.intro; with_reducible refine And.intro (fun _ => ?_) ?_; (first | with_reducible rfl | exact HCL.out _); with_reducible refine hK _ ?_; clear hK K))
        refine wpQuiet_nil ?_
        intro _ hw'
        obtain ⟨p, hw''⟩ := hw'
        subst hw''
        have hH := p.h
        clear HSK HCL qk qv
        revert hH
        generalize p.w = w'
        intro hH
        have B6' := Aside0.mk hH.2.2.1
        have HR' := Aside0.mk hH.2.2.2.1
        have HB' := Aside0.mk hH.2.2.2.2
        have c60' := hH.1
        have c61' := hH.2.1
        clear hH HB HR B6 c60 c61
        go_wp2
        go_ret2
        exact ⟨_, rfl, Kd.R_nil _ _ _ _ _, HB'.out⟩
      | true =>
        rw [if_pos rfl] at HF0
        by_cases hi0 : ¬ 0 < i
        · rw [if_neg (fun h => hi0 h.1)] at HF0
          have p2 : ¬ (0 : Int) < (i : Int) := by omega
          have p3 : decide ((0 : Int) < (i : Int)) = false := decide_eq_false p2
          by_cases hk3 : key.size ≤ 120 ∧ vsOk vs = true ∧ acc.length + vs.length ≤ 4398046511103
          case neg => rw [if_neg hk3] at HF0; cases HF0
          rw [if_pos hk3] at HF0
          obtain ⟨hky, hvs, hln⟩ := hk3
          have HKY := Aside0.mk hky
          have HVS := Aside0.mk hvs
          have HLN0 := Aside0.mk hln
          have HF1 := Aside0.mk HF0
          clear hky hvs hln HF0
          go_wp2_with (first | ((with_reducible refine gate_dst (N := 6) rfl ?_); refine box_event ?hg (N := 6) ?hd (cs := #[.string ⟨#[]⟩, .slice none 0 0]) (t := 67) ?hr ?_; (case hd => rfl); (case hg => rfl); (case hr => first | (go_simp; done) | (go_simp; rfl)); intro g6 hg w1 hbox hb; have G6 := Aside0.mk (show w.heap.size ≤ g6 from (by rw [hg]; exact HB.out.size)); have B6 := Aside0.mk hbox; clear hbox hg; have n0_ := Aside0.mk (below_then HB.out HB.out.size hb); have n1_ := Aside0.mk (Kd.R_below HR.out hb); clear HB HR; have HB := n0_; have HR := n1_; clear n0_ n1_; clear hb) | ((with_reducible refine gate_store (t := 67) (p := 6) (v := .tmp 15) rfl ?_); go_must (refine sagg_event rfl 67 (.tmp 6) (.tmp 15) rfl rfl g6 #[.string key, .slice A1 vs.length c1] _ _ rfl rfl B6.out (by kernel_rfl) rfl rfl ?_); intro w2 hbk hu; have nR_ := Aside0.mk (Kd.R_mono (Kd.R_step (Kd.R_types HR.out B6.out (by decide)) (fun k_ hk_ _ => hu.block k_ hk_.2)) (fun _ hk_ => hk_.1)); clear HR; have HR := nR_; clear nR_; have n0_ := Aside0.mk (hu.below HB.out G6.out); clear HB; have HB := n0_; clear n0_; clear B6; have B6 := Aside0.mk hbk; have c60 := (blk_cell B6.out 0).trans rfl; have c61 := (blk_cell B6.out 1).trans rfl; clear hbk hu))
          have hB1 := HB.out
          have hR1 := HR.out
          have qk : ∀ p : Held (fun w' => w'.cell? ⟨g6, 0, none⟩ = some (.string key) ∧ w'.cell? ⟨g6, 1, none⟩ = some (.slice A1 vs.length c1) ∧ w'.heap[g6]? = some (.cells #[.string key, .slice A1 vs.length c1] 67 (0, 0)) ∧ Kd.R k69 69 w' w.heap.size (fun _ => True) u4 acc ∧ Below w.heap.size w w'), p.w.cell? ⟨g6, 0, none⟩ = some (.string key) := fun p => p.h.1
          have qv : ∀ p : Held (fun w' => w'.cell? ⟨g6, 0, none⟩ = some (.string key) ∧ w'.cell? ⟨g6, 1, none⟩ = some (.slice A1 vs.length c1) ∧ w'.heap[g6]? = some (.cells #[.string key, .slice A1 vs.length c1] 67 (0, 0)) ∧ Kd.R k69 69 w' w.heap.size (fun _ => True) u4 acc ∧ Below w.heap.size w w'), p.w.cell? ⟨g6, 1, none⟩ = some (.slice A1 vs.length c1) := fun p => p.h.2.1
          have HSK := Aside0.mk (fun (p : Held (fun w' => w'.cell? ⟨g6, 0, none⟩ = some (.string key) ∧ w'.cell? ⟨g6, 1, none⟩ = some (.slice A1 vs.length c1) ∧ w'.heap[g6]? = some (.cells #[.string key, .slice A1 vs.length c1] 67 (0, 0)) ∧ Kd.R k69 69 w' w.heap.size (fun _ => True) u4 acc ∧ Below w.heap.size w w')) (w' : World) (hb : Below p.w.heap.size p.w w') => show (fun w' => w'.cell? ⟨g6, 0, none⟩ = some (.string key) ∧ w'.cell? ⟨g6, 1, none⟩ = some (.slice A1 vs.length c1) ∧ w'.heap[g6]? = some (.cells #[.string key, .slice A1 vs.length c1] 67 (0, 0)) ∧ Kd.R k69 69 w' w.heap.size (fun _ => True) u4 acc ∧ Below w.heap.size w w') w' from ⟨pw_cell_below hb p.h.1, pw_cell_below hb p.h.2.1, (hb.block _ (blk_lt (p.h.2.2.1))).trans (p.h.2.2.1), Kd.R_below (p.h.2.2.2.1) hb, below_then (p.h.2.2.2.2) (Below.size (p.h.2.2.2.2)) hb⟩)
          have HCL := Aside0.mk (fun (p : Held (fun w' => w'.cell? ⟨g6, 0, none⟩ = some (.string key) ∧ w'.cell? ⟨g6, 1, none⟩ = some (.slice A1 vs.length c1) ∧ w'.heap[g6]? = some (.cells #[.string key, .slice A1 vs.length c1] 67 (0, 0)) ∧ Kd.R k69 69 w' w.heap.size (fun _ => True) u4 acc ∧ Below w.heap.size w w')) => Held.call (batch_may.calls k key A1 c1 vs true p.w (HCV.out _ (p.h.2.2.2.2)) HLV.out HMY.out) (HSK.out p))
          refine wp_region_quiet_held (fun w' => w'.cell? ⟨g6, 0, none⟩ = some (.string key) ∧ w'.cell? ⟨g6, 1, none⟩ = some (.slice A1 vs.length c1) ∧ w'.heap[g6]? = some (.cells #[.string key, .slice A1 vs.length c1] 67 (0, 0)) ∧ Kd.R k69 69 w' w.heap.size (fun _ => True) u4 acc ∧ Below w.heap.size w w') (by kernel_rfl) (by kernel_rfl) ⟨c60, c61, B6.out, Kd.R_drew hR1, below_drew hB1⟩ ?_
          clear hB1 hR1
          repeat ((with_reducible refine wpQuiet_step (fun K hK => ?_)); go_simp; (try rw [if_neg (fun h => by cases h)]); first | (with_reducible refine hK _ ?_; clear hK K) | (apply Exists.intro; with_reducible refine And.intro (fun _ => ?_) ?_; (first | with_reducible rfl | exact HCL.out _); with_reducible refine hK _ ?_; clear hK K))
          refine wpQuiet_nil ?_
          intro _ hw'
          obtain ⟨p, hw''⟩ := hw'
          subst hw''
          have hH := p.h
          clear HSK HCL qk qv
          revert hH
          generalize p.w = w'
          intro hH
          have B6' := Aside0.mk hH.2.2.1
          have HR' := Aside0.mk hH.2.2.2.1
          have HB' := Aside0.mk hH.2.2.2.2
          have c60' := hH.1
          have c61' := hH.2.1
          clear hH HB HR B6 c60 c61
          have hvl : (vs.length : Int) ≤ 9223372036854775807 := by have := (HCV.out _ HB'.out).2.1; omega
          have HVL := Aside0.mk hvl
          clear hvl
          go_wp2
          go_loopg [4, 37] vs.length (fun gg s4 s37 wr => ∃ j : Nat, j ≤ vs.length ∧ vs.length - j ≤ gg ∧ s37 = .int .i64 j ∧ Aside0 (Below w.heap.size w wr) ∧ Aside0 (wr.heap[g6]? = some (.cells #[.string key, .slice A1 vs.length c1] 67 (0, 0))) ∧ Aside0 (Kd.R k69 69 wr w.heap.size (fun _ => True) s4 (acc ++ pairsRow key (vs.take j))))
          case atStart => exact ⟨0, Nat.zero_le _, by omega, rfl, HB', B6', ⟨by rw [List.take_zero]; simpa [pairsRow] using HR'.out⟩⟩
          case round =>
            obtain ⟨j, hj, hgj, rfl, HB, B6, HR⟩ := hrel
            have hvz := HVL.out
            by_cases hjl : j < vs.length
            · have hjz : (j : Int) < (vs.length : Int) := by omega
              obtain ⟨ad5, e5, h0, h1, h2⟩ := at_T80 (HCV.out _ HB.out) (j : Int) (by omega) hjz
              rw [rdT80_get vs j hjl] at h0 h1 h2
              simp only [Int.toNat_natCast] at h0 h1 h2
              have hok := List.all_eq_true.1 HVS.out vs[j] (List.getElem_mem hjl)
              rw [decide_eq_true_iff] at hok
              have hst := pairsRow_take key vs j hjl
              obtain ⟨x0, x1, x2, hx⟩ : ∃ x0 x1 x2, vs[j] = ⟨x0, x1, x2⟩ := ⟨_, _, _, rfl⟩
              rw [hx] at h0 h1 h2 hok hst
              simp only at h0 h1 h2 hok hst
              obtain ⟨pk0, hpk⟩ : ∃ q, pairKey key x0 = q := ⟨_, rfl⟩
              obtain ⟨pv0, hpv⟩ : ∃ q, pairVal ⟨x0, x1, x2⟩ = q := ⟨_, rfl⟩
              rw [hpk, hpv] at hst
              have HPK := Aside0.mk (show pairKey key (⟨x0, x1, x2⟩ : S80).f0 = pk0 from hpk)
              have HPV := Aside0.mk hpv
              have HX1 := Aside0.mk (show (⟨x0, x1, x2⟩ : S80).f1.size ≤ 9223372036854775806 from hok.1)
              have HX0 := Aside0.mk (show 0 ≤ (⟨x0, x1, x2⟩ : S80).f0 from hok.2.1)
              have HX2 := Aside0.mk (show (⟨x0, x1, x2⟩ : S80).f0 ≤ 1152921504606846976 from hok.2.2)
              obtain ⟨acc5, ha5⟩ : ∃ q, acc ++ pairsRow key (vs.take j) = q := ⟨_, rfl⟩
              have hal : acc5.length = acc.length + j := by rw [← ha5]; simp [pairsRow]; omega
              have hl32 : (acc5.length + 1) * 32 ≤ 140737488355328 := by have := HLN0.out; omega
              have HLN := Aside0.mk hl32
              have HST := Aside0.mk (show acc ++ pairsRow key (vs.take (j + 1)) = acc5 ++ [⟨pk0, pv0⟩] by rw [hst, ← List.append_assoc, ha5])
              rw [ha5] at HR
              obtain ⟨v5, hv5⟩ : ∃ q, q = u4 := ⟨_, rfl⟩
              rw [← hv5] at HR ⊢
              clear hok hst hpk hpv hx ha5 hal hl32 hv5
              cases e5
              go_wp2_with (first | ((with_reducible refine gate_dst (N := 8) rfl ?_); refine box_event ?hg (N := 8) ?hd (cs := #[.int .i64 0, .string ⟨#[]⟩, .bool false]) (t := 80) ?hr ?_; (case hd => rfl); (case hg => rfl); (case hr => first | (go_simp; done) | (go_simp; rfl)); intro g8 hg w4 hbox hb; have G8 := Aside0.mk (show w.heap.size ≤ g8 from (by rw [hg]; exact HB.out.size)); have H68 := Aside0.mk (show g6 ≠ g8 from fun e => absurd (blk_lt B6.out) (by omega)); have B8 := Aside0.mk hbox; clear hbox hg; have n0_ := Aside0.mk (below_then HB.out HB.out.size hb); have n1_ := Aside0.mk ((hb.block _ (blk_lt B6.out)).trans B6.out); have n2_ := Aside0.mk (Kd.R_below HR.out hb); clear HB B6 HR; have HB := n0_; have B6 := n1_; have HR := n2_; clear n0_ n1_ n2_; clear hb) | ((with_reducible refine gate_store (t := 80) (p := 8) (v := .tmp 40) rfl ?_); go_must (refine sagg_event rfl 80 (.tmp 8) (.tmp 40) rfl rfl g8 #[.int .i64 x0, .string x1, .bool x2] _ _ rfl rfl B8.out (by kernel_rfl) rfl rfl ?_); intro w5 hbk hu; have nR_ := Aside0.mk (Kd.R_mono (Kd.R_step (Kd.R_types HR.out B8.out (by decide)) (fun k_ hk_ _ => hu.block k_ hk_.2)) (fun _ hk_ => hk_.1)); clear HR; have HR := nR_; clear nR_; have n0_ := Aside0.mk (hu.below HB.out G8.out); have n1_ := Aside0.mk (hu.blk B6.out H68.out); clear HB B6; have HB := n0_; have B6 := n1_; clear n0_ n1_; clear B8; have B8 := Aside0.mk hbk; have c60 := (blk_cell B6.out 0).trans rfl; have c80 := (blk_cell B8.out 0).trans rfl; have c81 := (blk_cell B8.out 1).trans rfl; have c82 := (blk_cell B8.out 2).trans rfl; clear hbk hu) | (go_at_call 54; go_must (refine (pair.calls key ⟨x0, x1, x2⟩ _ HKY.out HX1.out HX0.out HX2.out).mono ?_); rintro e w6 ⟨rfl, hb⟩; have n0_ := Aside0.mk (below_then HB.out HB.out.size hb); have n1_ := Aside0.mk ((hb.block _ (blk_lt B6.out)).trans B6.out); have n2_ := Aside0.mk (Kd.R_below HR.out hb); clear HB B6 HR; have HB := n0_; have B6 := n1_; have HR := n2_; clear n0_ n1_ n2_; rw [HPK.out, HPV.out]; clear hb) | ((with_reducible refine gate_builtin (b := .append) (xs := #[.tmp 41, .tmp 46]) rfl ?_); at_builtin; go_must (refine Kd.R_append k69 (w0 := w) w.heap.size rfl (.tmp 41) (.tmp 46) 43 69 (.agg #[(.string ⟨#[]⟩), (.string ⟨#[]⟩)]) 32 rfl Try.underlying43 info69 rfl (by decide) (by decide) v5 acc5 (⟨pk0, pv0⟩ : S69) [.string pk0, .string pv0] (fun _ => True) (fun _ => False) rfl rfl (k69_mkM _ _ _ (⟨pk0, pv0⟩ : S69)) (fun _ hk => hk.elim) (fun _ _ => trivial) HR.out HB.out HB.out.size HLN.out ?_); intro v1 w7 ho hb hg hat; have n1_ := Aside0.mk (blk_grown B6.out hg (Kd.R_ne HR.out B6.out (by decide))); clear HB B6 HR; have HB := Aside0.mk hb; have B6 := n1_; clear n1_; have HR := Aside0.mk ho; clear ho hb hg hat))
              go_roundg (vs.length - (j + 1))
              case measure => omega
              case rel => exact ⟨j + 1, by omega, by omega, by go_num, HB, B6, ⟨by rw [HST.out]; exact HR.out⟩⟩
            · have hjz : ¬ (j : Int) < (vs.length : Int) := by omega
              have HR2 : Aside0 (Kd.R k69 69 wr w.heap.size (fun _ => True) u4 (acc ++ pairsRow key vs)) := ⟨by have := HR.out; rwa [List.take_of_length_le (by omega)] at this⟩
              clear HR
              go_wp2
              go_roundg (l0.length - (i + 1))
              case measure => omega
              case rel => exact ⟨i + 1, acc ++ pairsRow key vs, by omega, by have := HLN0.out; simp [pairsRow]; omega, by omega, by go_num, HB, HR2, ⟨by have := HF1.out; rwa [show l0.length - (i + 1) = n by omega]⟩⟩
        · obtain ⟨m, rfl⟩ : ∃ m, i = m + 1 := ⟨i - 1, by omega⟩
          obtain ⟨ad', A1', c1', e', g0, g1, g2, g3⟩ := at_T67 HC.out (m : Int) (by omega) (by omega)
          cases e'
          rw [rdT67_get] at g0
          simp only [Int.toNat_natCast] at g0
          obtain ⟨pk, hpk⟩ : ∃ q, (itemAt l0 m).f0 = q := ⟨_, rfl⟩
          rw [hpk] at g0
          have PW := Aside0.mk g0
          clear g0 g1 g2 g3
          have p0 : (0 : Int) ≤ (m : Int) := by omega
          have p1 : (m : Int) < (l0.length : Int) := by omega
          simp only [Int.natCast_add, Int.cast_ofNat_Int] at hiz ⊢
          have p2 : (0 : Int) < (m : Int) + 1 := by omega
          have p4 : IntKind.i64.wrap (m : Int) = (m : Int) := by simp [IntKind.wrap, IntKind.bits, IntKind.signed]; omega
          have p3 : decide ((0 : Int) < (m : Int) + 1) = true := decide_eq_true p2
          by_cases hq : ltS pk key = true
          · have hq' : Op.bytesLess pk.toList key.toList = true := hq
            rw [if_neg (by rw [show m + 1 - 1 = m from rfl, hpk, hq]; simp)] at HF0
            clear hq hpk
            by_cases hk3 : key.size ≤ 120 ∧ vsOk vs = true ∧ acc.length + vs.length ≤ 4398046511103
            case neg => rw [if_neg hk3] at HF0; cases HF0
            rw [if_pos hk3] at HF0
            obtain ⟨hky, hvs, hln⟩ := hk3
            have HKY := Aside0.mk hky
            have HVS := Aside0.mk hvs
            have HLN0 := Aside0.mk hln
            have HF1 := Aside0.mk HF0
            clear hky hvs hln HF0
            go_wp2_with (first | ((with_reducible refine gate_dst (N := 6) rfl ?_); refine box_event ?hg (N := 6) ?hd (cs := #[.string ⟨#[]⟩, .slice none 0 0]) (t := 67) ?hr ?_; (case hd => rfl); (case hg => rfl); (case hr => first | (go_simp; done) | (go_simp; rfl)); intro g6 hg w1 hbox hb; have G6 := Aside0.mk (show w.heap.size ≤ g6 from (by rw [hg]; exact HB.out.size)); have B6 := Aside0.mk hbox; clear hbox hg; have n0_ := Aside0.mk (below_then HB.out HB.out.size hb); have n1_ := Aside0.mk (Kd.R_below HR.out hb); clear HB HR; have HB := n0_; have HR := n1_; clear n0_ n1_; clear hb) | ((with_reducible refine gate_store (t := 67) (p := 6) (v := .tmp 15) rfl ?_); go_must (refine sagg_event rfl 67 (.tmp 6) (.tmp 15) rfl rfl g6 #[.string key, .slice A1 vs.length c1] _ _ rfl rfl B6.out (by kernel_rfl) rfl rfl ?_); intro w2 hbk hu; have nR_ := Aside0.mk (Kd.R_mono (Kd.R_step (Kd.R_types HR.out B6.out (by decide)) (fun k_ hk_ _ => hu.block k_ hk_.2)) (fun _ hk_ => hk_.1)); clear HR; have HR := nR_; clear nR_; have n0_ := Aside0.mk (hu.below HB.out G6.out); clear HB; have HB := n0_; clear n0_; clear B6; have B6 := Aside0.mk hbk; have c60 := (blk_cell B6.out 0).trans rfl; have c61 := (blk_cell B6.out 1).trans rfl; have p0c := (HB.out.cell (World.block_lt_of_cell? w _ PW.out)).trans PW.out; clear hbk hu))
            have hB1 := HB.out
            have hR1 := HR.out
            have qp : ∀ p : Held (fun w' => w'.cell? (ad.add (m * 2)) = some (.string pk) ∧ w'.cell? ⟨g6, 0, none⟩ = some (.string key) ∧ w'.cell? ⟨g6, 1, none⟩ = some (.slice A1 vs.length c1) ∧ w'.heap[g6]? = some (.cells #[.string key, .slice A1 vs.length c1] 67 (0, 0)) ∧ Kd.R k69 69 w' w.heap.size (fun _ => True) u4 acc ∧ Below w.heap.size w w'), p.w.cell? (ad.add (m * 2)) = some (.string pk) := fun p => p.h.1
            have qk : ∀ p : Held (fun w' => w'.cell? (ad.add (m * 2)) = some (.string pk) ∧ w'.cell? ⟨g6, 0, none⟩ = some (.string key) ∧ w'.cell? ⟨g6, 1, none⟩ = some (.slice A1 vs.length c1) ∧ w'.heap[g6]? = some (.cells #[.string key, .slice A1 vs.length c1] 67 (0, 0)) ∧ Kd.R k69 69 w' w.heap.size (fun _ => True) u4 acc ∧ Below w.heap.size w w'), p.w.cell? ⟨g6, 0, none⟩ = some (.string key) := fun p => p.h.2.1
            have qv : ∀ p : Held (fun w' => w'.cell? (ad.add (m * 2)) = some (.string pk) ∧ w'.cell? ⟨g6, 0, none⟩ = some (.string key) ∧ w'.cell? ⟨g6, 1, none⟩ = some (.slice A1 vs.length c1) ∧ w'.heap[g6]? = some (.cells #[.string key, .slice A1 vs.length c1] 67 (0, 0)) ∧ Kd.R k69 69 w' w.heap.size (fun _ => True) u4 acc ∧ Below w.heap.size w w'), p.w.cell? ⟨g6, 1, none⟩ = some (.slice A1 vs.length c1) := fun p => p.h.2.2.1
            have HSK := Aside0.mk (fun (p : Held (fun w' => w'.cell? (ad.add (m * 2)) = some (.string pk) ∧ w'.cell? ⟨g6, 0, none⟩ = some (.string key) ∧ w'.cell? ⟨g6, 1, none⟩ = some (.slice A1 vs.length c1) ∧ w'.heap[g6]? = some (.cells #[.string key, .slice A1 vs.length c1] 67 (0, 0)) ∧ Kd.R k69 69 w' w.heap.size (fun _ => True) u4 acc ∧ Below w.heap.size w w')) (w' : World) (hb : Below p.w.heap.size p.w w') => show (fun w' => w'.cell? (ad.add (m * 2)) = some (.string pk) ∧ w'.cell? ⟨g6, 0, none⟩ = some (.string key) ∧ w'.cell? ⟨g6, 1, none⟩ = some (.slice A1 vs.length c1) ∧ w'.heap[g6]? = some (.cells #[.string key, .slice A1 vs.length c1] 67 (0, 0)) ∧ Kd.R k69 69 w' w.heap.size (fun _ => True) u4 acc ∧ Below w.heap.size w w') w' from ⟨pw_cell_below hb p.h.1, pw_cell_below hb p.h.2.1, pw_cell_below hb p.h.2.2.1, (hb.block _ (blk_lt (p.h.2.2.2.1))).trans (p.h.2.2.2.1), Kd.R_below (p.h.2.2.2.2.1) hb, below_then (p.h.2.2.2.2.2) (Below.size (p.h.2.2.2.2.2)) hb⟩)
            have HCL := Aside0.mk (fun (p : Held (fun w' => w'.cell? (ad.add (m * 2)) = some (.string pk) ∧ w'.cell? ⟨g6, 0, none⟩ = some (.string key) ∧ w'.cell? ⟨g6, 1, none⟩ = some (.slice A1 vs.length c1) ∧ w'.heap[g6]? = some (.cells #[.string key, .slice A1 vs.length c1] 67 (0, 0)) ∧ Kd.R k69 69 w' w.heap.size (fun _ => True) u4 acc ∧ Below w.heap.size w w')) => Held.call (batch_may.calls k key A1 c1 vs true p.w (HCV.out _ (p.h.2.2.2.2.2)) HLV.out HMY.out) (HSK.out p))
            refine wp_region_quiet_held (fun w' => w'.cell? (ad.add (m * 2)) = some (.string pk) ∧ w'.cell? ⟨g6, 0, none⟩ = some (.string key) ∧ w'.cell? ⟨g6, 1, none⟩ = some (.slice A1 vs.length c1) ∧ w'.heap[g6]? = some (.cells #[.string key, .slice A1 vs.length c1] 67 (0, 0)) ∧ Kd.R k69 69 w' w.heap.size (fun _ => True) u4 acc ∧ Below w.heap.size w w') (by kernel_rfl) (by kernel_rfl) ⟨p0c, c60, c61, B6.out, Kd.R_drew hR1, below_drew hB1⟩ ?_
            clear hB1 hR1
            repeat ((with_reducible refine wpQuiet_step (fun K hK => ?_)); go_simp; (try rw [if_neg (fun h => by cases h)]); first | (with_reducible refine hK _ ?_; clear hK K) | (apply Exists.intro; with_reducible refine And.intro (fun _ => ?_) ?_; (first | with_reducible rfl | exact HCL.out _); with_reducible refine hK _ ?_; clear hK K))
            refine wpQuiet_nil ?_
            intro _ hw'
            obtain ⟨p, hw''⟩ := hw'
            subst hw''
            have hH := p.h
            clear HSK HCL qp qk qv
            revert hH
            generalize p.w = w'
            intro hH
            have B6' := Aside0.mk hH.2.2.2.1
            have HR' := Aside0.mk hH.2.2.2.2.1
            have HB' := Aside0.mk hH.2.2.2.2.2
            have c60' := hH.2.1
            have c61' := hH.2.2.1
            clear hH HB HR B6 c60 c61
            have hvl : (vs.length : Int) ≤ 9223372036854775807 := by have := (HCV.out _ HB'.out).2.1; omega
            have HVL := Aside0.mk hvl
            clear hvl
            go_wp2
            go_loopg [4, 37] vs.length (fun gg s4 s37 wr => ∃ j : Nat, j ≤ vs.length ∧ vs.length - j ≤ gg ∧ s37 = .int .i64 j ∧ Aside0 (Below w.heap.size w wr) ∧ Aside0 (wr.heap[g6]? = some (.cells #[.string key, .slice A1 vs.length c1] 67 (0, 0))) ∧ Aside0 (Kd.R k69 69 wr w.heap.size (fun _ => True) s4 (acc ++ pairsRow key (vs.take j))))
            case atStart => exact ⟨0, Nat.zero_le _, by omega, rfl, HB', B6', ⟨by rw [List.take_zero]; simpa [pairsRow] using HR'.out⟩⟩
            case round =>
              obtain ⟨j, hj, hgj, rfl, HB, B6, HR⟩ := hrel
              have hvz := HVL.out
              by_cases hjl : j < vs.length
              · have hjz : (j : Int) < (vs.length : Int) := by omega
                obtain ⟨ad5, e5, h0, h1, h2⟩ := at_T80 (HCV.out _ HB.out) (j : Int) (by omega) hjz
                rw [rdT80_get vs j hjl] at h0 h1 h2
                simp only [Int.toNat_natCast] at h0 h1 h2
                have hok := List.all_eq_true.1 HVS.out vs[j] (List.getElem_mem hjl)
                rw [decide_eq_true_iff] at hok
                have hst := pairsRow_take key vs j hjl
                obtain ⟨x0, x1, x2, hx⟩ : ∃ x0 x1 x2, vs[j] = ⟨x0, x1, x2⟩ := ⟨_, _, _, rfl⟩
                rw [hx] at h0 h1 h2 hok hst
                simp only at h0 h1 h2 hok hst
                obtain ⟨pk0, hpk⟩ : ∃ q, pairKey key x0 = q := ⟨_, rfl⟩
                obtain ⟨pv0, hpv⟩ : ∃ q, pairVal ⟨x0, x1, x2⟩ = q := ⟨_, rfl⟩
                rw [hpk, hpv] at hst
                have HPK := Aside0.mk (show pairKey key (⟨x0, x1, x2⟩ : S80).f0 = pk0 from hpk)
                have HPV := Aside0.mk hpv
                have HX1 := Aside0.mk (show (⟨x0, x1, x2⟩ : S80).f1.size ≤ 9223372036854775806 from hok.1)
                have HX0 := Aside0.mk (show 0 ≤ (⟨x0, x1, x2⟩ : S80).f0 from hok.2.1)
                have HX2 := Aside0.mk (show (⟨x0, x1, x2⟩ : S80).f0 ≤ 1152921504606846976 from hok.2.2)
                obtain ⟨acc5, ha5⟩ : ∃ q, acc ++ pairsRow key (vs.take j) = q := ⟨_, rfl⟩
                have hal : acc5.length = acc.length + j := by rw [← ha5]; simp [pairsRow]; omega
                have hl32 : (acc5.length + 1) * 32 ≤ 140737488355328 := by have := HLN0.out; omega
                have HLN := Aside0.mk hl32
                have HST := Aside0.mk (show acc ++ pairsRow key (vs.take (j + 1)) = acc5 ++ [⟨pk0, pv0⟩] by rw [hst, ← List.append_assoc, ha5])
                rw [ha5] at HR
                obtain ⟨v5, hv5⟩ : ∃ q, q = u4 := ⟨_, rfl⟩
                rw [← hv5] at HR ⊢
                clear hok hst hpk hpv hx ha5 hal hl32 hv5
                cases e5
                go_wp2_with (first | ((with_reducible refine gate_dst (N := 8) rfl ?_); refine box_event ?hg (N := 8) ?hd (cs := #[.int .i64 0, .string ⟨#[]⟩, .bool false]) (t := 80) ?hr ?_; (case hd => rfl); (case hg => rfl); (case hr => first | (go_simp; done) | (go_simp; rfl)); intro g8 hg w4 hbox hb; have G8 := Aside0.mk (show w.heap.size ≤ g8 from (by rw [hg]; exact HB.out.size)); have H68 := Aside0.mk (show g6 ≠ g8 from fun e => absurd (blk_lt B6.out) (by omega)); have B8 := Aside0.mk hbox; clear hbox hg; have n0_ := Aside0.mk (below_then HB.out HB.out.size hb); have n1_ := Aside0.mk ((hb.block _ (blk_lt B6.out)).trans B6.out); have n2_ := Aside0.mk (Kd.R_below HR.out hb); clear HB B6 HR; have HB := n0_; have B6 := n1_; have HR := n2_; clear n0_ n1_ n2_; clear hb) | ((with_reducible refine gate_store (t := 80) (p := 8) (v := .tmp 40) rfl ?_); go_must (refine sagg_event rfl 80 (.tmp 8) (.tmp 40) rfl rfl g8 #[.int .i64 x0, .string x1, .bool x2] _ _ rfl rfl B8.out (by kernel_rfl) rfl rfl ?_); intro w5 hbk hu; have nR_ := Aside0.mk (Kd.R_mono (Kd.R_step (Kd.R_types HR.out B8.out (by decide)) (fun k_ hk_ _ => hu.block k_ hk_.2)) (fun _ hk_ => hk_.1)); clear HR; have HR := nR_; clear nR_; have n0_ := Aside0.mk (hu.below HB.out G8.out); have n1_ := Aside0.mk (hu.blk B6.out H68.out); clear HB B6; have HB := n0_; have B6 := n1_; clear n0_ n1_; clear B8; have B8 := Aside0.mk hbk; have c60 := (blk_cell B6.out 0).trans rfl; have c80 := (blk_cell B8.out 0).trans rfl; have c81 := (blk_cell B8.out 1).trans rfl; have c82 := (blk_cell B8.out 2).trans rfl; clear hbk hu) | (go_at_call 54; go_must (refine (pair.calls key ⟨x0, x1, x2⟩ _ HKY.out HX1.out HX0.out HX2.out).mono ?_); rintro e w6 ⟨rfl, hb⟩; have n0_ := Aside0.mk (below_then HB.out HB.out.size hb); have n1_ := Aside0.mk ((hb.block _ (blk_lt B6.out)).trans B6.out); have n2_ := Aside0.mk (Kd.R_below HR.out hb); clear HB B6 HR; have HB := n0_; have B6 := n1_; have HR := n2_; clear n0_ n1_ n2_; rw [HPK.out, HPV.out]; clear hb) | ((with_reducible refine gate_builtin (b := .append) (xs := #[.tmp 41, .tmp 46]) rfl ?_); at_builtin; go_must (refine Kd.R_append k69 (w0 := w) w.heap.size rfl (.tmp 41) (.tmp 46) 43 69 (.agg #[(.string ⟨#[]⟩), (.string ⟨#[]⟩)]) 32 rfl Try.underlying43 info69 rfl (by decide) (by decide) v5 acc5 (⟨pk0, pv0⟩ : S69) [.string pk0, .string pv0] (fun _ => True) (fun _ => False) rfl rfl (k69_mkM _ _ _ (⟨pk0, pv0⟩ : S69)) (fun _ hk => hk.elim) (fun _ _ => trivial) HR.out HB.out HB.out.size HLN.out ?_); intro v1 w7 ho hb hg hat; have n1_ := Aside0.mk (blk_grown B6.out hg (Kd.R_ne HR.out B6.out (by decide))); clear HB B6 HR; have HB := Aside0.mk hb; have B6 := n1_; clear n1_; have HR := Aside0.mk ho; clear ho hb hg hat))
                go_roundg (vs.length - (j + 1))
                case measure => omega
                case rel => exact ⟨j + 1, by omega, by omega, by go_num, HB, B6, ⟨by rw [HST.out]; exact HR.out⟩⟩
              · have hjz : ¬ (j : Int) < (vs.length : Int) := by omega
                have HR2 : Aside0 (Kd.R k69 69 wr w.heap.size (fun _ => True) u4 (acc ++ pairsRow key vs)) := ⟨by have := HR.out; rwa [List.take_of_length_le (by omega)] at this⟩
                clear HR
                go_wp2
                go_roundg (l0.length - (m + 1 + 1))
                case measure => omega
                case rel => exact ⟨m + 1 + 1, acc ++ pairsRow key vs, by omega, by have := HLN0.out; simp [pairsRow]; omega, by omega, by go_num, HB, HR2, ⟨by have := HF1.out; rwa [show l0.length - (m + 1 + 1) = n by omega]⟩⟩
          · have hq2 : ltS pk key = false := by simpa using hq
            have hq' : Op.bytesLess pk.toList key.toList = false := hq2
            rw [if_pos ⟨by omega, by rw [show m + 1 - 1 = m from rfl, hpk]; exact hq2⟩] at HF0
            simp only [Option.some.injEq, Prod.mk.injEq] at HF0
            obtain ⟨rfl, rfl⟩ := HF0
            clear hq hq2 hpk
            go_wp2_with (first | ((with_reducible refine gate_dst (N := 6) rfl ?_); refine box_event ?hg (N := 6) ?hd (cs := #[.string ⟨#[]⟩, .slice none 0 0]) (t := 67) ?hr ?_; (case hd => rfl); (case hg => rfl); (case hr => first | (go_simp; done) | (go_simp; rfl)); intro g6 hg w1 hbox hb; have G6 := Aside0.mk (show w.heap.size ≤ g6 from (by rw [hg]; exact HB.out.size)); have B6 := Aside0.mk hbox; clear hbox hg; have n0_ := Aside0.mk (below_then HB.out HB.out.size hb); have n1_ := Aside0.mk (Kd.R_below HR.out hb); clear HB HR; have HB := n0_; have HR := n1_; clear n0_ n1_; clear hb) | ((with_reducible refine gate_store (t := 67) (p := 6) (v := .tmp 15) rfl ?_); go_must (refine sagg_event rfl 67 (.tmp 6) (.tmp 15) rfl rfl g6 #[.string key, .slice A1 vs.length c1] _ _ rfl rfl B6.out (by kernel_rfl) rfl rfl ?_); intro w2 hbk hu; have nR_ := Aside0.mk (Kd.R_mono (Kd.R_step (Kd.R_types HR.out B6.out (by decide)) (fun k_ hk_ _ => hu.block k_ hk_.2)) (fun _ hk_ => hk_.1)); clear HR; have HR := nR_; clear nR_; have n0_ := Aside0.mk (hu.below HB.out G6.out); clear HB; have HB := n0_; clear n0_; clear B6; have B6 := Aside0.mk hbk; have c60 := (blk_cell B6.out 0).trans rfl; have c61 := (blk_cell B6.out 1).trans rfl; have p0c := (HB.out.cell (World.block_lt_of_cell? w _ PW.out)).trans PW.out; clear hbk hu))
            have hB1 := HB.out
            have hR1 := HR.out
            have qp : ∀ p : Held (fun w' => w'.cell? (ad.add (m * 2)) = some (.string pk) ∧ w'.cell? ⟨g6, 0, none⟩ = some (.string key) ∧ w'.cell? ⟨g6, 1, none⟩ = some (.slice A1 vs.length c1) ∧ w'.heap[g6]? = some (.cells #[.string key, .slice A1 vs.length c1] 67 (0, 0)) ∧ Kd.R k69 69 w' w.heap.size (fun _ => True) u4 acc ∧ Below w.heap.size w w'), p.w.cell? (ad.add (m * 2)) = some (.string pk) := fun p => p.h.1
            have qk : ∀ p : Held (fun w' => w'.cell? (ad.add (m * 2)) = some (.string pk) ∧ w'.cell? ⟨g6, 0, none⟩ = some (.string key) ∧ w'.cell? ⟨g6, 1, none⟩ = some (.slice A1 vs.length c1) ∧ w'.heap[g6]? = some (.cells #[.string key, .slice A1 vs.length c1] 67 (0, 0)) ∧ Kd.R k69 69 w' w.heap.size (fun _ => True) u4 acc ∧ Below w.heap.size w w'), p.w.cell? ⟨g6, 0, none⟩ = some (.string key) := fun p => p.h.2.1
            have qv : ∀ p : Held (fun w' => w'.cell? (ad.add (m * 2)) = some (.string pk) ∧ w'.cell? ⟨g6, 0, none⟩ = some (.string key) ∧ w'.cell? ⟨g6, 1, none⟩ = some (.slice A1 vs.length c1) ∧ w'.heap[g6]? = some (.cells #[.string key, .slice A1 vs.length c1] 67 (0, 0)) ∧ Kd.R k69 69 w' w.heap.size (fun _ => True) u4 acc ∧ Below w.heap.size w w'), p.w.cell? ⟨g6, 1, none⟩ = some (.slice A1 vs.length c1) := fun p => p.h.2.2.1
            have HSK := Aside0.mk (fun (p : Held (fun w' => w'.cell? (ad.add (m * 2)) = some (.string pk) ∧ w'.cell? ⟨g6, 0, none⟩ = some (.string key) ∧ w'.cell? ⟨g6, 1, none⟩ = some (.slice A1 vs.length c1) ∧ w'.heap[g6]? = some (.cells #[.string key, .slice A1 vs.length c1] 67 (0, 0)) ∧ Kd.R k69 69 w' w.heap.size (fun _ => True) u4 acc ∧ Below w.heap.size w w')) (w' : World) (hb : Below p.w.heap.size p.w w') => show (fun w' => w'.cell? (ad.add (m * 2)) = some (.string pk) ∧ w'.cell? ⟨g6, 0, none⟩ = some (.string key) ∧ w'.cell? ⟨g6, 1, none⟩ = some (.slice A1 vs.length c1) ∧ w'.heap[g6]? = some (.cells #[.string key, .slice A1 vs.length c1] 67 (0, 0)) ∧ Kd.R k69 69 w' w.heap.size (fun _ => True) u4 acc ∧ Below w.heap.size w w') w' from ⟨pw_cell_below hb p.h.1, pw_cell_below hb p.h.2.1, pw_cell_below hb p.h.2.2.1, (hb.block _ (blk_lt (p.h.2.2.2.1))).trans (p.h.2.2.2.1), Kd.R_below (p.h.2.2.2.2.1) hb, below_then (p.h.2.2.2.2.2) (Below.size (p.h.2.2.2.2.2)) hb⟩)
            have HCL := Aside0.mk (fun (p : Held (fun w' => w'.cell? (ad.add (m * 2)) = some (.string pk) ∧ w'.cell? ⟨g6, 0, none⟩ = some (.string key) ∧ w'.cell? ⟨g6, 1, none⟩ = some (.slice A1 vs.length c1) ∧ w'.heap[g6]? = some (.cells #[.string key, .slice A1 vs.length c1] 67 (0, 0)) ∧ Kd.R k69 69 w' w.heap.size (fun _ => True) u4 acc ∧ Below w.heap.size w w')) => Held.call (batch_may.calls k key A1 c1 vs true p.w (HCV.out _ (p.h.2.2.2.2.2)) HLV.out HMY.out) (HSK.out p))
            refine wp_region_quiet_held (fun w' => w'.cell? (ad.add (m * 2)) = some (.string pk) ∧ w'.cell? ⟨g6, 0, none⟩ = some (.string key) ∧ w'.cell? ⟨g6, 1, none⟩ = some (.slice A1 vs.length c1) ∧ w'.heap[g6]? = some (.cells #[.string key, .slice A1 vs.length c1] 67 (0, 0)) ∧ Kd.R k69 69 w' w.heap.size (fun _ => True) u4 acc ∧ Below w.heap.size w w') (by kernel_rfl) (by kernel_rfl) ⟨p0c, c60, c61, B6.out, Kd.R_drew hR1, below_drew hB1⟩ ?_
            clear hB1 hR1
            repeat ((with_reducible refine wpQuiet_step (fun K hK => ?_)); go_simp; (try rw [if_neg (fun h => by cases h)]); first | (with_reducible refine hK _ ?_; clear hK K) | (apply Exists.intro; with_reducible refine And.intro (fun _ => ?_) ?_; (first | with_reducible rfl | exact HCL.out _); with_reducible refine hK _ ?_; clear hK K))
            refine wpQuiet_nil ?_
            intro _ hw'
            obtain ⟨p, hw''⟩ := hw'
            subst hw''
            have hH := p.h
            clear HSK HCL qp qk qv
            revert hH
            generalize p.w = w'
            intro hH
            have B6' := Aside0.mk hH.2.2.2.1
            have HR' := Aside0.mk hH.2.2.2.2.1
            have HB' := Aside0.mk hH.2.2.2.2.2
            have c60' := hH.2.1
            have c61' := hH.2.2.1
            clear hH HB HR B6 c60 c61
            go_wp2
            go_ret2
            exact ⟨_, rfl, Kd.R_nil _ _ _ _ _, HB'.out⟩
    · have hiz : ¬ (i : Int) < (l0.length : Int) := by omega
      have HF0 := HF.out
      rw [show l0.length - i = 0 by omega, pairsL] at HF0
      simp only [Option.some.injEq, Prod.mk.injEq] at HF0
      obtain ⟨rfl, rfl⟩ := HF0
      have HSC := Aside0.mk (fun W (h : Kd.R k69 69 W w.heap.size (fun _ => True) u4 acc) => SortFunc69.calls w.heap.size (fun _ => True) u4 acc W h (by have := HAL.out; omega))
      go_wp2_with (go_at_call 55; go_must (refine (HSC.out _ HR.out).mono ?_); rintro e w9 ⟨rfl, hR, hb⟩; have HB9 := Aside0.mk (HB.out.trans hb); have HR9 := Aside0.mk hR; clear hR hb)
      go_ret2
      exact ⟨_, rfl, HR9.out, HB9.out⟩
end Go.Proofs.Ytehcmedeeaoebaa.PB
end
section
namespace Go.Proofs.Ytehcmedeeaoebaa.PB
open Go.RowKit Go.Proofs.YtehcmedeeaoebaaW.PrintWords Go.Proofs.YtehcmedeeaoebaaW.PrintLast Go.Proofs.YtehcmedeeaoebaaW.PrintMore
attribute [local go_sem] max2_int min2_int max_two min_two max_three min_three max_four min_four
set_option linter.unusedVariables false
set_option linter.unusedSimpArgs false
def ambrylaw15_few.l0 : Nat → List (S67) → Int → Int → Option (Bool)
  | 0, _, _, _ => none
  | k + 1, x0, x3, x4 => if x4 < (x0.length : Int) then (if x3 < 300 then (if 0 ≤ x4 then (ambrylaw15_few.l0 k x0 (wrap64 (x3 + (((rd_T67 x0 x4).f1).length : Int))) (wrap64 (x4 + 1))) else (none)) else (some (decide (x3 < 300)))) else (some (decide (x3 < 300)))
def ambrylaw15_few.f (k : Nat) (l0 : List (S67)) : Option (Bool) := ambrylaw15_few.l0 k l0 (l0.length : Int) 0
set_option maxHeartbeats 8000000 in
set_option maxRecDepth 100000 in
theorem ambrylaw15_few.calls (k : Nat) (A0 : Option Addr) (c0 : Nat) (l0 : List (S67)) (r : Bool) (w : World) (hr0 : Kd.C k67 w A0 l0.length l0) (hc0 : l0.length ≤ c0) (h : ambrylaw15_few.f k l0 = some r) :
    Calls Try.prog 27 #[.slice A0 l0.length c0] w fun e w' => e = .returned (.bool r) ∧ Drawn0 w w' := by
  have HR0 := Aside0.mk hr0
  have HC0 := Aside0.mk hc0
  clear hr0 hc0
  have H : (ambrylaw15_few.l0 k l0 (l0.length : Int) 0) = some r := h
  clear h
  have H' := Aside0.mk H
  clear H
  go_enter Try.func27, Try.ntmps27
  go_wp2
  go_loopg [3, 4] k (fun kq v3 v4 w' => ∃ (x3_1 : Int) (x4_1 : Int), v3 = .int .i64 x3_1 ∧ v4 = .int .i64 x4_1 ∧ Aside0 (ambrylaw15_few.l0 kq l0 x3_1 x4_1 = some r) ∧ Aside0 (kq ≤ k) ∧ Drawn0 w w')
  case atStart => exact ⟨((l0.length : Int)), (0), (by first | rfl | (simp; done) | (simp [*]; done)), (by first | rfl | (simp; done) | (simp [*]; done)), H', ⟨Nat.le_refl _⟩, by repeat (first | exact Drawn0.refl _ | apply Drawn0.step)⟩
  case round =>
    clear H'
    obtain ⟨x3_1, x4_1, rfl, rfl, HA, HK1, ⟨m1, rfl⟩⟩ := hrel
    cases gk with
    | zero => exact absurd HA.out (by simp [ambrylaw15_few.l0])
    | succ k1 =>
      have H := HA.out
      clear HA
      simp only [ambrylaw15_few.l0] at H
      by_cases c2 : x4_1 < (l0.length : Int)
      · rw [if_pos c2] at H
        have c2b0 : decide (x4_1 < (l0.length : Int)) = true := decide_eq_true c2
        clear c2
        by_cases c3 : x3_1 < 300
        · rw [if_pos c3] at H
          have c3b0 : decide (x3_1 < 300) = true := decide_eq_true c3
          clear c3
          by_cases c4 : 0 ≤ x4_1
          · rw [if_pos c4] at H
            have c4b0 : decide (0 ≤ x4_1) = true := decide_eq_true c4
            clear c4
            have H' := Aside0.mk H
            clear H
            have p374 : 0 ≤ (x4_1 : Int) := of_decide_eq_true (by first | (with_reducible assumption) | assumption)
            have q374 : x4_1 < (l0.length : Int) := of_decide_eq_true (by first | (with_reducible assumption) | assumption)
            obtain ⟨ad374, A374_1, c374_1, e374, hx374_0, hx374_1, hl374_1, hi374_1⟩ := at_T67 HR0.out x4_1 p374 q374
            cases e374
            have HR374_1 := Aside0.mk hi374_1
            have HC374_1 := Aside0.mk hl374_1
            clear hi374_1 hl374_1
            replace p374 := eq_true p374
            replace q374 := eq_true q374
            go_wp2
            go_roundg k1
            case measure => have := HK1.out; omega
            case rel => exact ⟨(wrap64 (x3_1 + (((rd_T67 l0 x4_1).f1).length : Int))), (wrap64 (x4_1 + 1)), (by first | rfl | (simp; done) | (simp [*]; done)), (by first | rfl | (simp; done) | (simp [*]; done)), H', ⟨by have := HK1.out; omega⟩, by repeat (first | exact Drawn0.refl _ | apply Drawn0.step)⟩
          · rw [if_neg c4] at H
            exact absurd H (by simp)
        · rw [if_neg c3] at H
          have c3b0 : decide (x3_1 < 300) = false := decide_eq_false c3
          clear c3
          obtain rfl := Option.some.inj H
          go_wp2
          go_ret
          exact ⟨by first | rfl | (simp; done) | (simp [*]; done), by repeat (first | exact Drawn0.refl _ | apply Drawn0.step)⟩
      · rw [if_neg c2] at H
        have c2b0 : decide (x4_1 < (l0.length : Int)) = false := decide_eq_false c2
        clear c2
        obtain rfl := Option.some.inj H
        go_wp2
        go_ret
        exact ⟨by first | rfl | (simp; done) | (simp [*]; done), by repeat (first | exact Drawn0.refl _ | apply Drawn0.step)⟩
end Go.Proofs.Ytehcmedeeaoebaa.PB
end
section
namespace Go.Proofs.Ytehcmedeeaoebaa.PB
open Go.RowKit Go.Proofs.YtehcmedeeaoebaaW.PrintWords Go.Proofs.YtehcmedeeaoebaaW.PrintLast Go.Proofs.YtehcmedeeaoebaaW.PrintMore
set_option linter.unusedVariables false
def rightV (v : S80) : Bool := decide (1 ≤ v.f0) && (decide (v.f0 ≤ 1152921504606846976) && (decide (v.f1.size ≤ 200) && (!v.f2 || (v.f1.toList == ([] : List UInt8)))))
theorem chain_right_f (v : S80) : chain_right.f v.f0 v.f1 v.f2 = some (rightV v) := by
  unfold chain_right.f rightV
  by_cases c1 : 1 ≤ v.f0
  · by_cases c2 : v.f0 ≤ 1152921504606846976
    · by_cases c3 : v.f1.size ≤ 200
      · rw [if_pos c1, if_pos c2, if_pos (by omega), decide_eq_true c1, decide_eq_true c2, decide_eq_true c3]
        cases v.f2 <;> simp
      · rw [if_pos c1, if_pos c2, if_neg (by omega), decide_eq_false c3]; simp
    · rw [if_pos c1, if_neg c2, decide_eq_false c2]; simp
  · rw [if_neg c1, decide_eq_false c1]; simp
def under : Option Int → Int → Bool
  | none, _ => true
  | some t, v => decide (v < t)
def chainP (p : Option Int) : List S80 → Bool
  | [] => true
  | v :: r => rightV v && (under p v.f0 && chainP (some v.f0) r)
theorem chainP_cons (p : Option Int) (v : S80) (r : List S80) : chainP p (v :: r) = (rightV v && (under p v.f0 && chainP (some v.f0) r)) := rfl
def before (vs : List S80) (i : Nat) : Option Int := if h : 0 < i ∧ i - 1 < vs.length then some (vs[i - 1]'h.2).f0 else none
theorem rd80 (l : List S80) (i : Nat) (h : i < l.length) : rd_T80 l (i : Int) = l[i] := by simp [rd_T80, List.getD_eq_getElem?_getD, h]
theorem rd67 (l : List S67) (i : Nat) (h : i < l.length) : rd_T67 l (i : Int) = l[i] := by simp [rd_T67, List.getD_eq_getElem?_getD, h]
theorem chain_loop (vs : List S80) (hl : vs.length ≤ 140737488351232) : ∀ n i, i + n = vs.length → Ev (fun k => chain_Check.l0 k vs vs (vs.length : Int) (i : Int)) (if chainP (before vs i) (vs.drop i) = true then 0 else 4) := by
  intro n
  induction n with
  | zero =>
    intro i hi
    rw [List.drop_of_length_le (by omega)]
    exact Ev.step (Ev.const _) fun k => by simp only [chain_Check.l0]; rw [if_neg (by omega)]; rfl
  | succ n ih =>
    intro i hi
    have hil : i < vs.length := by omega
    have hnext : before vs (i + 1) = some vs[i].f0 := by unfold before; rw [dif_pos ⟨by omega, by omega⟩]; rfl
    rw [List.drop_eq_getElem_cons hil, chainP_cons]
    have hi1 := ih (i + 1) (by omega)
    rw [hnext] at hi1
    cases hr : rightV vs[i] with
    | false =>
      rw [if_neg (by simp)]
      exact Ev.step (Ev.const _) fun k => by
        simp only [chain_Check.l0]; rw [if_pos (by omega), if_pos (by omega), if_pos (by omega), rd80 vs i hil, chain_right_f, hr, Option.bind_some, if_neg (by simp)]
    | true =>
      cases i with
      | zero =>
        have e0 : before vs 0 = none := by unfold before; rw [dif_neg (by omega)]
        rw [e0]
        simp only [under, Bool.true_and]
        refine Ev.step hi1 fun k => ?_
        simp only [chain_Check.l0]
        rw [if_pos (by omega), if_pos (by omega), if_pos (by omega), rd80 vs 0 hil, chain_right_f, hr, Option.bind_some, if_pos (by trivial), if_neg (by omega), w64 (by omega) (by omega)]
        rfl
      | succ j =>
        have e0 : before vs (j + 1) = some (vs[j]'(by omega)).f0 := by unfold before; rw [dif_pos ⟨by omega, by omega⟩]; rfl
        have e1 : wrap64 (((j + 1 : Nat) : Int) - 1) = (j : Int) := by rw [w64 (by omega) (by omega)]; omega
        rw [e0]
        simp only [under, Bool.true_and]
        by_cases c : vs[j + 1].f0 < (vs[j]'(by omega)).f0
        · rw [decide_eq_true c, Bool.true_and]
          refine Ev.step hi1 fun k => ?_
          simp only [chain_Check.l0]
          rw [if_pos (by omega), if_pos (by omega), if_pos (by omega), rd80 vs (j + 1) hil, chain_right_f, hr, Option.bind_some, if_pos (by trivial), if_pos (by omega), e1, if_pos (by omega), if_pos (by omega), rd80 vs j (by omega), if_neg (by omega), w64 (by omega) (by omega)]
          rfl
        · rw [decide_eq_false c, Bool.false_and, if_neg (by simp)]
          refine Ev.step (Ev.const _) fun k => ?_
          simp only [chain_Check.l0]
          rw [if_pos (by omega), if_pos (by omega), if_pos (by omega), rd80 vs (j + 1) hil, chain_right_f, hr, Option.bind_some, if_pos (by trivial), if_pos (by omega), e1, if_pos (by omega), if_pos (by omega), rd80 vs j (by omega), if_pos (by omega)]
def mayB (key : ByteArray) (vs : List S80) : Bool := decide (key.size ≤ 120) && (decide (0 < vs.length) && (chainP none vs && !(vs.any longV)))
theorem may_ev (key : ByteArray) (vs : List S80) (hl : vs.length ≤ 140737488351232) : Ev (fun k => batch_may.f k key vs) (mayB key vs) := by
  unfold batch_may.f mayB
  by_cases c1 : key.size ≤ 120
  · simp only [if_pos c1, decide_eq_true c1, Bool.true_and]
    by_cases c2 : 0 < vs.length
    · simp only [if_pos c2, decide_eq_true c2, Bool.true_and]
      have hc := chain_loop vs hl vs.length 0 (by omega)
      have e0 : before vs 0 = none := by unfold before; rw [dif_neg (by omega)]
      rw [e0, List.drop_zero] at hc
      refine Ev.bind (show Ev (fun k => chain_Check.f k vs) _ from hc) ?_
      cases chainP none vs with
      | true => simp only [if_true, Bool.true_and]; exact Ev.const _
      | false => simp only [Bool.false_eq_true, if_false, Bool.false_and, if_neg (show ¬ (4 : Int) = 0 by omega)]; exact Ev.const _
    · simp only [if_neg c2, decide_eq_false c2, Bool.false_and]; exact Ev.const _
  · simp only [if_neg c1, decide_eq_false c1, Bool.false_and]; exact Ev.const _
theorem chainP_facts : ∀ {vs : List S80} {p : Option Int}, chainP p vs = true → (∀ v ∈ vs, rightV v = true ∧ ∀ t, p = some t → v.f0 < t) ∧ vs.Pairwise (fun a b => b.f0 < a.f0)
  | [], p, _ => ⟨by simp, List.Pairwise.nil⟩
  | v :: r, p, h => by
    rw [chainP_cons, Bool.and_eq_true, Bool.and_eq_true] at h
    obtain ⟨h1, h2, h3⟩ := h
    obtain ⟨i1, i2⟩ := chainP_facts h3
    have hp : ∀ t, p = some t → v.f0 < t := by
      intro t e
      subst e
      exact of_decide_eq_true h2
    refine ⟨fun x hx => ?_, List.pairwise_cons.2 ⟨fun x hx => (i1 x hx).2 _ rfl, i2⟩⟩
    rcases List.mem_cons.1 hx with rfl | hx
    · exact ⟨h1, hp⟩
    · exact ⟨(i1 x hx).1, fun t e => by have := (i1 x hx).2 _ rfl; have := hp t e; omega⟩
theorem mayB_facts {key : ByteArray} {vs : List S80} (h : mayB key vs = true) : key.size ≤ 120 ∧ 0 < vs.length ∧ (∀ v ∈ vs, okV v) ∧ vs.Pairwise (fun a b => b.f0 < a.f0) := by
  unfold mayB at h
  simp only [Bool.and_eq_true] at h
  obtain ⟨h1, h2, h3, h4⟩ := h
  obtain ⟨c1, c2⟩ := chainP_facts h3
  refine ⟨of_decide_eq_true h1, of_decide_eq_true h2, fun v hv => ?_, c2⟩
  have hr := (c1 v hv).1
  have hlong : ¬ 199 < v.f1.size := by
    intro hn
    rw [Bool.not_eq_true'] at h4
    have := List.any_eq_false.1 h4 v hv
    exact this (by unfold longV; exact decide_eq_true hn)
  unfold rightV at hr
  simp only [Bool.and_eq_true, decide_eq_true_eq, Bool.or_eq_true, Bool.not_eq_true', beq_iff_eq] at hr
  refine ⟨hr.1, hr.2.1, by omega, fun hd => ?_⟩
  rcases hr.2.2.2 with e | e
  · rw [hd] at e; cases e
  · rw [Lib.toList_data] at e
    exact ByteArray.ext (Array.toList_inj.1 e)
def totV (l : List S67) : Nat := (l.map fun x => x.f1.length).sum
theorem few_loop (l : List S67) (hl : l.length ≤ 140737488351232) (hv : ∀ x ∈ l, x.f1.length ≤ 140737488351232) : ∀ n i (a : Nat), i + n = l.length → a ≤ 1000000000000000 → Ev (fun k => ambrylaw15_few.l0 k l (a : Int) (i : Int)) (decide (a + totV (l.drop i) < 300)) := by
  intro n
  induction n with
  | zero =>
    intro i a hi ha
    rw [List.drop_of_length_le (by omega)]
    refine Ev.step (Ev.of_eq (o := some (decide ((a : Int) < 300))) ?_) fun k => by simp only [ambrylaw15_few.l0]; rw [if_neg (by omega)]
    have e : totV [] = 0 := rfl
    rw [e]
    by_cases c : a < 300
    · rw [decide_eq_true (show (a : Int) < 300 by omega), decide_eq_true (show a + 0 < 300 by omega)]
    · rw [decide_eq_false (show ¬ (a : Int) < 300 by omega), decide_eq_false (show ¬ a + 0 < 300 by omega)]
  | succ n ih =>
    intro i a hi ha
    have hil : i < l.length := by omega
    have hx := hv _ (List.getElem_mem hil)
    have ht : totV (l.drop i) = l[i].f1.length + totV (l.drop (i + 1)) := by rw [List.drop_eq_getElem_cons hil]; rfl
    by_cases c : a < 300
    · have := ih (i + 1) (a + l[i].f1.length) (by omega) (by omega)
      rw [ht, show a + (l[i].f1.length + totV (l.drop (i + 1))) = a + l[i].f1.length + totV (l.drop (i + 1)) by omega]
      refine Ev.step this fun k => ?_
      simp only [ambrylaw15_few.l0]
      rw [if_pos (by omega), if_pos (by omega), if_pos (by omega), rd67 l i hil, w64 (by omega) (by omega), w64 (by omega) (by omega)]
      rfl
    · rw [decide_eq_false (by omega)]
      refine Ev.step (Ev.of_eq (o := some (decide ((a : Int) < 300))) (by rw [decide_eq_false (by omega)])) fun k => ?_
      simp only [ambrylaw15_few.l0]
      rw [if_pos (by omega), if_neg (by omega)]
theorem few_ev (l : List S67) (hl : l.length ≤ 140737488351232) (hv : ∀ x ∈ l, x.f1.length ≤ 140737488351232) : Ev (fun k => ambrylaw15_few.f k l) (decide (l.length + totV l < 300)) := by
  have := few_loop l hl hv l.length 0 l.length (by omega) (by omega)
  rw [List.drop_zero] at this
  exact this
def over : Option ByteArray → ByteArray → Bool
  | none, _ => true
  | some q, k => ltS q k
def itemsOk (p : Option ByteArray) : List S67 → Bool
  | [] => true
  | x :: r => mayB x.f0 x.f1 && (over p x.f0 && itemsOk (some x.f0) r)
theorem itemsOk_cons (p : Option ByteArray) (x : S67) (r : List S67) : itemsOk p (x :: r) = (mayB x.f0 x.f1 && (over p x.f0 && itemsOk (some x.f0) r)) := rfl
theorem itemsOk_nil (p : Option ByteArray) : itemsOk p [] = true := rfl
def ahead67 (l : List S67) (i : Nat) : Option ByteArray := if 0 < i then some (itemAt l (i - 1)).f0 else none
def rowsOf (l : List S67) : List S69 := l.flatMap fun x => pairsRow x.f0 x.f1
theorem itemAt_get (l : List S67) (i : Nat) (h : i < l.length) : itemAt l i = l[i] := by simp [itemAt, List.getD_eq_getElem?_getD, h]
theorem pairs_loop (l : List S67) (ht : totV l ≤ 1000) (hv : ∀ x ∈ l, x.f1.length ≤ 140737488351232) : ∀ n i acc, i + n = l.length → acc.length + totV (l.drop i) ≤ 1000 → Ev (fun k => pairsL k l n i acc) (if itemsOk (ahead67 l i) (l.drop i) = true then (sortP (acc ++ rowsOf (l.drop i)), 0) else ([], 2)) := by
  intro n
  induction n with
  | zero =>
    intro i acc hi _
    rw [List.drop_of_length_le (by omega), itemsOk_nil, if_pos rfl]
    simp only [pairsL, rowsOf, List.flatMap_nil, List.append_nil]
    exact Ev.const _
  | succ n ih =>
    intro i acc hi hacc
    have hil : i < l.length := by omega
    have hd := List.drop_eq_getElem_cons hil
    have hx := hv _ (List.getElem_mem hil)
    rw [hd] at hacc ⊢
    simp only [totV, List.map_cons, List.sum_cons] at hacc
    rw [itemsOk_cons]
    simp only [pairsL, itemAt_get l i hil]
    refine Ev.bind (may_ev _ _ hx) ?_
    cases hm : mayB l[i].f0 l[i].f1 with
    | false => simp only [Bool.false_eq_true, if_false, Bool.false_and]; exact Ev.const _
    | true =>
      simp only [if_true, Bool.true_and]
      obtain ⟨f1, f2, f3, f4⟩ := mayB_facts hm
      have hok : vsOk l[i].f1 = true := by
        unfold vsOk
        rw [List.all_eq_true]
        intro v hv
        obtain ⟨a, b, c, _⟩ := f3 v hv
        exact decide_eq_true ⟨by omega, by omega, by omega⟩
      have hn : ahead67 l (i + 1) = some l[i].f0 := by unfold ahead67; rw [if_pos (by omega), show i + 1 - 1 = i from rfl, itemAt_get l i hil]
      have hnext := ih (i + 1) (acc ++ pairsRow l[i].f0 l[i].f1) (by omega) (by simp only [List.length_append, pairsRow, List.length_map]; unfold totV; omega)
      rw [hn] at hnext
      have hrows : acc ++ rowsOf (l[i] :: l.drop (i + 1)) = acc ++ pairsRow l[i].f0 l[i].f1 ++ rowsOf (l.drop (i + 1)) := by unfold rowsOf; rw [List.flatMap_cons, List.append_assoc]
      rw [hrows]
      by_cases hi0 : 0 < i
      · have hp : ahead67 l i = some (itemAt l (i - 1)).f0 := by unfold ahead67; rw [if_pos hi0]
        have ho : over (ahead67 l i) l[i].f0 = ltS (itemAt l (i - 1)).f0 l[i].f0 := by rw [hp]; rfl
        rcases Bool.eq_false_or_eq_true (ltS (itemAt l (i - 1)).f0 l[i].f0) with hq | hq
        · rw [ho.trans hq, Bool.true_and]
          refine Ev.congr hnext fun k => ?_
          rw [if_neg (fun h => by rw [hq] at h; cases h.2), if_pos ⟨f1, hok, by omega⟩]
        · rw [ho.trans hq, Bool.false_and, if_neg (by simp)]
          refine Ev.congr (Ev.const _) fun k => ?_
          rw [if_pos ⟨hi0, hq⟩]
      · have hp : ahead67 l i = none := by unfold ahead67; rw [if_neg hi0]
        have ho : over (ahead67 l i) l[i].f0 = true := by rw [hp]; rfl
        rw [ho, Bool.true_and]
        refine Ev.congr hnext fun k => ?_
        rw [if_neg (fun h => hi0 h.1), if_pos ⟨f1, hok, by omega⟩]
theorem Pairs_ev (l : List S67) (ht : totV l ≤ 1000) (hv : ∀ x ∈ l, x.f1.length ≤ 140737488351232) : Ev (fun k => batch_Pairs.f k l) (if itemsOk none l = true then (sortP (rowsOf l), 0) else ([], 2)) := by
  have := pairs_loop l ht hv l.length 0 [] (by omega) (by simpa using ht)
  rw [List.drop_zero, List.nil_append] at this
  exact this
theorem itemsOk_facts : ∀ {l : List S67} {p : Option ByteArray}, itemsOk p l = true → (∀ x ∈ l, mayB x.f0 x.f1 = true ∧ ∀ q, p = some q → ltS q x.f0 = true) ∧ l.Pairwise (fun x y => ltS x.f0 y.f0 = true)
  | [], p, _ => ⟨by simp, List.Pairwise.nil⟩
  | x :: r, p, h => by
    rw [itemsOk_cons, Bool.and_eq_true, Bool.and_eq_true] at h
    obtain ⟨h1, h2, h3⟩ := h
    obtain ⟨i1, i2⟩ := itemsOk_facts h3
    have hp : ∀ q, p = some q → ltS q x.f0 = true := by
      intro q e
      subst e
      exact h2
    refine ⟨fun y hy => ?_, List.pairwise_cons.2 ⟨fun y hy => (i1 y hy).2 _ rfl, i2⟩⟩
    rcases List.mem_cons.1 hy with rfl | hy
    · exact ⟨h1, hp⟩
    · exact ⟨(i1 y hy).1, fun q e => ltS_trans (hp q e) ((i1 y hy).2 _ rfl)⟩
end Go.Proofs.Ytehcmedeeaoebaa.PB
end
section
namespace Go.Proofs.Ytehcmedeeaoebaa.PB
open Go.RowKit Go.Proofs.YtehcmedeeaoebaaW.PrintWords Go.Proofs.YtehcmedeeaoebaaW.PrintLast Go.Proofs.YtehcmedeeaoebaaW.PrintMore
set_option linter.unusedVariables false
set_option linter.unusedSimpArgs false
theorem putGo_length (k v : ByteArray) : ∀ (l : List S69) (b : Bool), (putGo k v l b).length ≤ l.length + 1 ∧ (b = true → (putGo k v l b).length ≤ l.length)
  | [], b => by cases b <;> simp [putGo]
  | x :: r, b => by
    have h1 := putGo_length k v r (b || !ltS x.f0 k)
    rw [putGo]
    cases b with
    | true =>
      simp only [Bool.true_or] at h1
      have := h1.2 (by trivial)
      simp only [List.length_append, List.length_cons, Bool.true_or]
      refine ⟨?_, fun _ => ?_⟩ <;> split <;> split <;> simp_all <;> omega
    | false =>
      simp only [Bool.false_or] at h1
      refine ⟨?_, fun h => by cases h⟩
      cases hq : ltS x.f0 k with
      | true =>
        rw [hq] at h1
        have := h1.1
        simp only [List.length_append, List.length_cons]
        split <;> split <;> simp_all <;> omega
      | false =>
        rw [hq] at h1
        have := h1.2 (by simp)
        simp only [List.length_append, List.length_cons]
        split <;> split <;> simp_all <;> omega
theorem put10_length (l : List S69) (k v : ByteArray) : (put10 l k v).1.length ≤ l.length + 1 := by
  unfold put10
  split
  · simp
  · exact (putGo_length k v l false).1
end Go.Proofs.Ytehcmedeeaoebaa.PB
end
section
namespace Go.Proofs.Ytehcmedeeaoebaa.PB
open Go.RowKit Go.Proofs.YtehcmedeeaoebaaW.PrintWords Go.Proofs.YtehcmedeeaoebaaW.PrintLast Go.Proofs.YtehcmedeeaoebaaW.PrintMore
attribute [local go_sem] max2_int min2_int max_two min_two max_three min_three max_four min_four
set_option linter.unusedVariables false
set_option linter.unusedSimpArgs false
def ambryref13_right.f (a0_0 : Int) (a0_1 : ByteArray) (a0_2 : Bool) : Option (Bool) := if a0_0 ≥ 1 then (if a0_0 ≤ 1152921504606846976 then (if (a0_1.size : Int) ≤ 200 then (if a0_2 = true then (some (a0_1.toList == ([] : List UInt8))) else (some true)) else (some false)) else (some false)) else (some false)
set_option maxHeartbeats 8000000 in
set_option maxRecDepth 100000 in
theorem ambryref13_right.calls (a0_0 : Int) (a0_1 : ByteArray) (a0_2 : Bool) (r : Bool) (w : World) (h : ambryref13_right.f a0_0 a0_1 a0_2 = some r) :
    Calls Try.prog 93 #[.agg #[.int .i64 a0_0, .string a0_1, .bool a0_2]] w fun e w' => e = .returned (.bool r) ∧ Below w.heap.size w w' := by
  have hu80 := Try.underlying80
  have HB := Aside0.mk (Below.refl w.heap.size w)
  have H : (if a0_0 ≥ 1 then (if a0_0 ≤ 1152921504606846976 then (if (a0_1.size : Int) ≤ 200 then (if a0_2 = true then (some (a0_1.toList == ([] : List UInt8))) else (some true)) else (some false)) else (some false)) else (some false)) = some r := h
  clear h
  by_cases c2 : a0_0 ≥ 1
  · rw [if_pos c2] at H
    have c2b0 : decide (1 ≤ a0_0) = true := decide_eq_true c2
    clear c2
    by_cases c3 : a0_0 ≤ 1152921504606846976
    · rw [if_pos c3] at H
      have c3b0 : decide (a0_0 ≤ 1152921504606846976) = true := decide_eq_true c3
      clear c3
      by_cases c4 : (a0_1.size : Int) ≤ 200
      · rw [if_pos c4] at H
        have c4b0 : decide ((a0_1.size : Int) ≤ 200) = true := decide_eq_true c4
        have c4b1 : decide (a0_1.size ≤ 200) = true := decide_eq_true (by omega)
        clear c4
        by_cases c5 : a0_2 = true
        · subst c5
          have H1 : (some (a0_1.toList == ([] : List UInt8))) = some r := by rw [if_pos rfl] at H; exact H
          clear H
          have H := H1
          clear H1
          obtain rfl := Option.some.inj H
          go_enter Try.func93, Try.ntmps93
          go_wp2_with (first | ((with_reducible refine gate_dst (N := 1) rfl ?_); (try (refine gate_guard (by rfl) ?_; dsimp only)); refine box_event ?hg (N := 1) ?hd (cs := #[.int .i64 a0_0, .string a0_1, .bool true]) (t := 80) ?hr ?_; (case hd => rfl); (case hg => rfl); (case hr => first | (go_simp; done) | (go_simp; rfl)); intro gb375 hg w6 hbox hb; have n0_ := Aside0.mk (below_step (by repeat (first | (with_reducible first | exact HB.out | apply below_alloc | apply pw_below_drewN | apply below_drew1) | exact HB.out)) hb); have n1_ := Aside0.mk (hbox); have n2_ := Aside0.mk ((by rw [hg]; exact (below_size (by repeat (first | (with_reducible first | exact HB.out | apply below_alloc | apply pw_below_drewN | apply below_drew1) | exact HB.out))) : w.heap.size ≤ gb375)); have n3_ := Aside0.mk ((by rw [hg]; exact (below_size (by repeat (first | (with_reducible first | exact HB.out | apply below_alloc | apply pw_below_drewN | apply below_drew1) | exact HB.out))) : w.heap.size ≤ gb375)); clear HB; have HB := n0_; have BK375 := n1_; have GW375 := n2_; have GE375 := n3_; clear n0_ n1_ n2_ n3_; clear hb hbox hg; have hcz7_0 : w6.cell? ⟨gb375, 0, none⟩ = some (.int .i64 a0_0) := (blk_cell BK375.out 0).trans rfl; have hcz7_1 : w6.cell? ⟨gb375, 1, none⟩ = some (.string a0_1) := (blk_cell BK375.out 1).trans rfl; have hcz7_2 : w6.cell? ⟨gb375, 2, none⟩ = some (.bool true) := (blk_cell BK375.out 2).trans rfl; have hfz7_0 := blk_frozen BK375.out 0; have hfz7_1 := blk_frozen BK375.out 1; have hfz7_2 := blk_frozen BK375.out 2))
          go_ret
          exact ⟨by first | rfl | (simp [errW_none, errW_some] <;> rfl) | (simp [*, errW_none, errW_some] <;> rfl), by repeat (first | (with_reducible first | exact HB.out | apply below_alloc | apply pw_below_drewN | apply below_drew1 | refine below_set ?_ GE375.out) | exact HB.out)⟩
        · replace c5 := Bool.eq_false_iff.mpr c5
          subst c5
          have H1 : (some true) = some r := by rw [if_neg (show ¬ (false = true) by decide)] at H; exact H
          clear H
          have H := H1
          clear H1
          obtain rfl := Option.some.inj H
          go_enter Try.func93, Try.ntmps93
          go_wp2_with (first | ((with_reducible refine gate_dst (N := 1) rfl ?_); (try (refine gate_guard (by rfl) ?_; dsimp only)); refine box_event ?hg (N := 1) ?hd (cs := #[.int .i64 a0_0, .string a0_1, .bool false]) (t := 80) ?hr ?_; (case hd => rfl); (case hg => rfl); (case hr => first | (go_simp; done) | (go_simp; rfl)); intro gb375 hg w8 hbox hb; have n0_ := Aside0.mk (below_step (by repeat (first | (with_reducible first | exact HB.out | apply below_alloc | apply pw_below_drewN | apply below_drew1) | exact HB.out)) hb); have n1_ := Aside0.mk (hbox); have n2_ := Aside0.mk ((by rw [hg]; exact (below_size (by repeat (first | (with_reducible first | exact HB.out | apply below_alloc | apply pw_below_drewN | apply below_drew1) | exact HB.out))) : w.heap.size ≤ gb375)); have n3_ := Aside0.mk ((by rw [hg]; exact (below_size (by repeat (first | (with_reducible first | exact HB.out | apply below_alloc | apply pw_below_drewN | apply below_drew1) | exact HB.out))) : w.heap.size ≤ gb375)); clear HB; have HB := n0_; have BK375 := n1_; have GW375 := n2_; have GE375 := n3_; clear n0_ n1_ n2_ n3_; clear hb hbox hg; have hcz9_0 : w8.cell? ⟨gb375, 0, none⟩ = some (.int .i64 a0_0) := (blk_cell BK375.out 0).trans rfl; have hcz9_1 : w8.cell? ⟨gb375, 1, none⟩ = some (.string a0_1) := (blk_cell BK375.out 1).trans rfl; have hcz9_2 : w8.cell? ⟨gb375, 2, none⟩ = some (.bool false) := (blk_cell BK375.out 2).trans rfl; have hfz9_0 := blk_frozen BK375.out 0; have hfz9_1 := blk_frozen BK375.out 1; have hfz9_2 := blk_frozen BK375.out 2))
          go_ret
          exact ⟨by first | rfl | (simp [errW_none, errW_some] <;> rfl) | (simp [*, errW_none, errW_some] <;> rfl), by repeat (first | (with_reducible first | exact HB.out | apply below_alloc | apply pw_below_drewN | apply below_drew1 | refine below_set ?_ GE375.out) | exact HB.out)⟩
      · rw [if_neg c4] at H
        have c4b0 : decide ((a0_1.size : Int) ≤ 200) = false := decide_eq_false c4
        have c4b1 : decide (a0_1.size ≤ 200) = false := decide_eq_false (by omega)
        clear c4
        obtain rfl := Option.some.inj H
        go_enter Try.func93, Try.ntmps93
        go_wp2_with (first | ((with_reducible refine gate_dst (N := 1) rfl ?_); (try (refine gate_guard (by rfl) ?_; dsimp only)); refine box_event ?hg (N := 1) ?hd (cs := #[.int .i64 a0_0, .string a0_1, .bool a0_2]) (t := 80) ?hr ?_; (case hd => rfl); (case hg => rfl); (case hr => first | (go_simp; done) | (go_simp; rfl)); intro gb375 hg w10 hbox hb; have n0_ := Aside0.mk (below_step (by repeat (first | (with_reducible first | exact HB.out | apply below_alloc | apply pw_below_drewN | apply below_drew1) | exact HB.out)) hb); have n1_ := Aside0.mk (hbox); have n2_ := Aside0.mk ((by rw [hg]; exact (below_size (by repeat (first | (with_reducible first | exact HB.out | apply below_alloc | apply pw_below_drewN | apply below_drew1) | exact HB.out))) : w.heap.size ≤ gb375)); have n3_ := Aside0.mk ((by rw [hg]; exact (below_size (by repeat (first | (with_reducible first | exact HB.out | apply below_alloc | apply pw_below_drewN | apply below_drew1) | exact HB.out))) : w.heap.size ≤ gb375)); clear HB; have HB := n0_; have BK375 := n1_; have GW375 := n2_; have GE375 := n3_; clear n0_ n1_ n2_ n3_; clear hb hbox hg; have hcz11_0 : w10.cell? ⟨gb375, 0, none⟩ = some (.int .i64 a0_0) := (blk_cell BK375.out 0).trans rfl; have hcz11_1 : w10.cell? ⟨gb375, 1, none⟩ = some (.string a0_1) := (blk_cell BK375.out 1).trans rfl; have hcz11_2 : w10.cell? ⟨gb375, 2, none⟩ = some (.bool a0_2) := (blk_cell BK375.out 2).trans rfl; have hfz11_0 := blk_frozen BK375.out 0; have hfz11_1 := blk_frozen BK375.out 1; have hfz11_2 := blk_frozen BK375.out 2))
        go_ret
        exact ⟨by first | rfl | (simp [errW_none, errW_some] <;> rfl) | (simp [*, errW_none, errW_some] <;> rfl), by repeat (first | (with_reducible first | exact HB.out | apply below_alloc | apply pw_below_drewN | apply below_drew1 | refine below_set ?_ GE375.out) | exact HB.out)⟩
    · rw [if_neg c3] at H
      have c3b0 : decide (a0_0 ≤ 1152921504606846976) = false := decide_eq_false c3
      clear c3
      obtain rfl := Option.some.inj H
      go_enter Try.func93, Try.ntmps93
      go_wp2_with (first | ((with_reducible refine gate_dst (N := 1) rfl ?_); (try (refine gate_guard (by rfl) ?_; dsimp only)); refine box_event ?hg (N := 1) ?hd (cs := #[.int .i64 a0_0, .string a0_1, .bool a0_2]) (t := 80) ?hr ?_; (case hd => rfl); (case hg => rfl); (case hr => first | (go_simp; done) | (go_simp; rfl)); intro gb375 hg w12 hbox hb; have n0_ := Aside0.mk (below_step (by repeat (first | (with_reducible first | exact HB.out | apply below_alloc | apply pw_below_drewN | apply below_drew1) | exact HB.out)) hb); have n1_ := Aside0.mk (hbox); have n2_ := Aside0.mk ((by rw [hg]; exact (below_size (by repeat (first | (with_reducible first | exact HB.out | apply below_alloc | apply pw_below_drewN | apply below_drew1) | exact HB.out))) : w.heap.size ≤ gb375)); have n3_ := Aside0.mk ((by rw [hg]; exact (below_size (by repeat (first | (with_reducible first | exact HB.out | apply below_alloc | apply pw_below_drewN | apply below_drew1) | exact HB.out))) : w.heap.size ≤ gb375)); clear HB; have HB := n0_; have BK375 := n1_; have GW375 := n2_; have GE375 := n3_; clear n0_ n1_ n2_ n3_; clear hb hbox hg; have hcz13_0 : w12.cell? ⟨gb375, 0, none⟩ = some (.int .i64 a0_0) := (blk_cell BK375.out 0).trans rfl; have hcz13_1 : w12.cell? ⟨gb375, 1, none⟩ = some (.string a0_1) := (blk_cell BK375.out 1).trans rfl; have hcz13_2 : w12.cell? ⟨gb375, 2, none⟩ = some (.bool a0_2) := (blk_cell BK375.out 2).trans rfl; have hfz13_0 := blk_frozen BK375.out 0; have hfz13_1 := blk_frozen BK375.out 1; have hfz13_2 := blk_frozen BK375.out 2))
      go_ret
      exact ⟨by first | rfl | (simp [errW_none, errW_some] <;> rfl) | (simp [*, errW_none, errW_some] <;> rfl), by repeat (first | (with_reducible first | exact HB.out | apply below_alloc | apply pw_below_drewN | apply below_drew1 | refine below_set ?_ GE375.out) | exact HB.out)⟩
  · rw [if_neg c2] at H
    have c2b0 : decide (1 ≤ a0_0) = false := decide_eq_false c2
    clear c2
    obtain rfl := Option.some.inj H
    go_enter Try.func93, Try.ntmps93
    go_wp2_with (first | ((with_reducible refine gate_dst (N := 1) rfl ?_); (try (refine gate_guard (by rfl) ?_; dsimp only)); refine box_event ?hg (N := 1) ?hd (cs := #[.int .i64 a0_0, .string a0_1, .bool a0_2]) (t := 80) ?hr ?_; (case hd => rfl); (case hg => rfl); (case hr => first | (go_simp; done) | (go_simp; rfl)); intro gb375 hg w14 hbox hb; have n0_ := Aside0.mk (below_step (by repeat (first | (with_reducible first | exact HB.out | apply below_alloc | apply pw_below_drewN | apply below_drew1) | exact HB.out)) hb); have n1_ := Aside0.mk (hbox); have n2_ := Aside0.mk ((by rw [hg]; exact (below_size (by repeat (first | (with_reducible first | exact HB.out | apply below_alloc | apply pw_below_drewN | apply below_drew1) | exact HB.out))) : w.heap.size ≤ gb375)); have n3_ := Aside0.mk ((by rw [hg]; exact (below_size (by repeat (first | (with_reducible first | exact HB.out | apply below_alloc | apply pw_below_drewN | apply below_drew1) | exact HB.out))) : w.heap.size ≤ gb375)); clear HB; have HB := n0_; have BK375 := n1_; have GW375 := n2_; have GE375 := n3_; clear n0_ n1_ n2_ n3_; clear hb hbox hg; have hcz15_0 : w14.cell? ⟨gb375, 0, none⟩ = some (.int .i64 a0_0) := (blk_cell BK375.out 0).trans rfl; have hcz15_1 : w14.cell? ⟨gb375, 1, none⟩ = some (.string a0_1) := (blk_cell BK375.out 1).trans rfl; have hcz15_2 : w14.cell? ⟨gb375, 2, none⟩ = some (.bool a0_2) := (blk_cell BK375.out 2).trans rfl; have hfz15_0 := blk_frozen BK375.out 0; have hfz15_1 := blk_frozen BK375.out 1; have hfz15_2 := blk_frozen BK375.out 2))
    go_ret
    exact ⟨by first | rfl | (simp [errW_none, errW_some] <;> rfl) | (simp [*, errW_none, errW_some] <;> rfl), by repeat (first | (with_reducible first | exact HB.out | apply below_alloc | apply pw_below_drewN | apply below_drew1 | refine below_set ?_ GE375.out) | exact HB.out)⟩
end Go.Proofs.Ytehcmedeeaoebaa.PB
end
section
namespace Go.Proofs.Ytehcmedeeaoebaa.PB
open Go.RowKit Go.Proofs.YtehcmedeeaoebaaW.PrintWords Go.Proofs.YtehcmedeeaoebaaW.PrintLast Go.Proofs.YtehcmedeeaoebaaW.PrintMore
attribute [local go_sem] max2_int min2_int max_two min_two max_three min_three max_four min_four
set_option linter.unusedVariables false
set_option linter.unusedSimpArgs false
def ambryref13_Right.l0 : Nat → List (S80) → Int → Option (Bool)
  | 0, _, _ => none
  | k + 1, x0, x3 => if x3 < (x0.length : Int) then (if 0 ≤ x3 then ((ambryref13_right.f ((rd_T80 x0 x3).f0) ((rd_T80 x0 x3).f1) ((rd_T80 x0 x3).f2)).bind fun t377 => (if t377 = true then (if x3 > 0 then (if 0 ≤ (wrap64 (x3 - 1)) then (if (wrap64 (x3 - 1)) < (x0.length : Int) then (if ((rd_T80 x0 x3).f0) ≥ ((rd_T80 x0 (wrap64 (x3 - 1))).f0) then (some false) else (ambryref13_Right.l0 k x0 (wrap64 (x3 + 1)))) else (none)) else (none)) else (ambryref13_Right.l0 k x0 (wrap64 (x3 + 1)))) else (some false))) else (none)) else (some true)
def ambryref13_Right.f (k : Nat) (l0 : List (S80)) : Option (Bool) := ambryref13_Right.l0 k l0 0
def ambryref13_Right.T4 : Bool × List (List Nat × List Nat) := (true, [([], []), ([], []), ([0, 1], [0, 1]), ([2], [2]), ([3], [3]), ([4], [4]), ([5, 4], [5]), ([6], [6]), ([7, 6], [6, 7]), ([8, 6, 6], [6, 8]), ([9], [9]), ([9], [9]), ([10, 11, 9], [9, 10, 11]), ([12, 9], [9, 12]), ([13, 9], [9, 13]), ([9], [9]), ([9], [9]), ([16, 9], [9, 16]), ([15, 17, 9], [9, 15, 17]), ([18, 9], [9, 18]), ([19, 9], [9, 19]), ([14, 20, 9], [9, 14, 20]), ([9, 21, 6], [6, 9, 21]), ([6, 22], [6, 22])])
def ambryref13_Right.B4 : List Nat := [0, 0, 3, 7, 15, 31, 63, 127, 255, 511, 1023, 1023, 4095, 8191, 16383, 1023, 1023, 66559, 230399, 492543, 1016831, 2097151, 4194303, 8388607]
theorem ambryref13_Right.tab4 : rtab .any (opsOf Try.f76 4) = ambryref13_Right.T4 := by kernel_rfl
theorem ambryref13_Right.bits4 : waitsOk ambryref13_Right.T4.2 ambryref13_Right.B4 = true := by kernel_rfl
set_option maxHeartbeats 8000000 in
set_option maxRecDepth 100000 in
theorem ambryref13_Right.calls (k : Nat) (A0 : Option Addr) (c0 : Nat) (l0 : List (S80)) (r : Bool) (w : World) (hr0 : Kd.C k80 w A0 l0.length l0) (hc0 : l0.length ≤ c0) (h : ambryref13_Right.f k l0 = some r) :
    Calls Try.prog 76 #[.slice A0 l0.length c0] w fun e w' => e = .returned (.bool r) ∧ Below w.heap.size w w' := by
  have hu80 := Try.underlying80
  have HR0 := Aside0.mk hr0
  have HC0 := Aside0.mk hc0
  clear hr0 hc0
  have HB := Aside0.mk (Below.refl w.heap.size w)
  have H : (ambryref13_Right.l0 k l0 0) = some r := h
  clear h
  have H' := Aside0.mk H
  clear H
  go_enter Try.func76, Try.ntmps76
  go_wp2
  go_loopg [3] k (fun kq v3 w' => ∃ (x3_1 : Int), v3 = .int .i64 x3_1 ∧ Aside0 (ambryref13_Right.l0 kq l0 x3_1 = some r) ∧ Aside0 (kq ≤ k) ∧ Aside0 (Below w.heap.size w w'))
  case atStart => exact ⟨(0), (by first | rfl | (simp; done) | (simp [*]; done)), H', ⟨Nat.le_refl _⟩, ⟨by repeat (first | (with_reducible first | exact HB.out | apply below_alloc | apply pw_below_drewN | apply below_drew1) | exact HB.out)⟩⟩
  case round =>
    clear H'
    obtain ⟨x3_1, rfl, HA, HK1, HB⟩ := hrel
    cases gk with
    | zero => exact absurd HA.out (by simp [ambryref13_Right.l0])
    | succ k1 =>
      have H := HA.out
      clear HA
      simp only [ambryref13_Right.l0] at H
      by_cases c2 : x3_1 < (l0.length : Int)
      · rw [if_pos c2] at H
        have c2b0 : decide (x3_1 < (l0.length : Int)) = true := decide_eq_true c2
        clear c2
        by_cases c3 : 0 ≤ x3_1
        · rw [if_pos c3] at H
          have c3b0 : decide (0 ≤ x3_1) = true := decide_eq_true c3
          clear c3
          replace H := Option.bind_eq_some_iff.mp H
          obtain ⟨t377, A40, H⟩ := H
          replace H : (if t377 = true then (if x3_1 > 0 then (if 0 ≤ (wrap64 (x3_1 - 1)) then (if (wrap64 (x3_1 - 1)) < (l0.length : Int) then (if ((rd_T80 l0 x3_1).f0) ≥ ((rd_T80 l0 (wrap64 (x3_1 - 1))).f0) then (some false) else (ambryref13_Right.l0 k1 l0 (wrap64 (x3_1 + 1)))) else (none)) else (none)) else (ambryref13_Right.l0 k1 l0 (wrap64 (x3_1 + 1)))) else (some false)) = some r := H
          have A4 := Aside0.mk A40
          clear A40
          by_cases c5 : t377 = true
          · subst c5
            have H1 : (if x3_1 > 0 then (if 0 ≤ (wrap64 (x3_1 - 1)) then (if (wrap64 (x3_1 - 1)) < (l0.length : Int) then (if ((rd_T80 l0 x3_1).f0) ≥ ((rd_T80 l0 (wrap64 (x3_1 - 1))).f0) then (some false) else (ambryref13_Right.l0 k1 l0 (wrap64 (x3_1 + 1)))) else (none)) else (none)) else (ambryref13_Right.l0 k1 l0 (wrap64 (x3_1 + 1)))) = some r := by rw [if_pos rfl] at H; exact H
            clear H
            have H := H1
            clear H1
            by_cases c6 : x3_1 > 0
            · rw [if_pos c6] at H
              have c6b0 : decide (0 < x3_1) = true := decide_eq_true c6
              clear c6
              obtain ⟨ji7, hji7⟩ : ∃ j_ : Int, (wrap64 (x3_1 - 1)) = j_ := ⟨_, rfl⟩
              replace H : (if 0 ≤ (ji7) then (if (ji7) < (l0.length : Int) then (if ((rd_T80 l0 x3_1).f0) ≥ ((rd_T80 l0 (ji7)).f0) then (some false) else (ambryref13_Right.l0 k1 l0 (wrap64 (x3_1 + 1)))) else (none)) else (none)) = some r := by first | (rw [hji7] at H; exact H) | (simp only [hji7] at H ⊢; exact H)
              (try rw [hji7] at A4)
              have hji7w : (IntKind.i64.wrap (x3_1 - 1)) = ji7 := (i64_w _).trans hji7
              by_cases c8 : 0 ≤ (ji7)
              · rw [if_pos c8] at H
                have c8b0 : decide (0 ≤ (ji7)) = true := decide_eq_true c8
                clear c8
                by_cases c9 : (ji7) < (l0.length : Int)
                · rw [if_pos c9] at H
                  have c9b0 : decide ((ji7) < (l0.length : Int)) = true := decide_eq_true c9
                  clear c9
                  by_cases c10 : ((rd_T80 l0 x3_1).f0) ≥ ((rd_T80 l0 (ji7)).f0)
                  · rw [if_pos c10] at H
                    have c10b0 : decide (((rd_T80 l0 (ji7)).f0) ≤ ((rd_T80 l0 x3_1).f0)) = true := decide_eq_true c10
                    clear c10
                    obtain rfl := Option.some.inj H
                    try go_wp2
                    have n0_ := Aside0.mk (below_drew1 HB.out)
                    clear HB
                    have HB := n0_
                    clear n0_
                    have p376 : 0 ≤ (x3_1 : Int) := of_decide_eq_true (by first | (with_reducible assumption) | assumption)
                    have q376 : x3_1 < (l0.length : Int) := of_decide_eq_true (by first | (with_reducible assumption) | assumption)
                    obtain ⟨ad376, e376, hx376_0, hx376_1, hx376_2⟩ := at_T80 HR0.out x3_1 p376 q376
                    have hw376_2 := hx376_2
                    have hw376_1 := hx376_1
                    have hw376_0 := hx376_0
                    cases e376
                    replace hx376_0 := (HB.out.cell (World.block_lt_of_cell? w _ hx376_0)).trans hx376_0
                    replace hx376_1 := (HB.out.cell (World.block_lt_of_cell? w _ hx376_1)).trans hx376_1
                    replace hx376_2 := (HB.out.cell (World.block_lt_of_cell? w _ hx376_2)).trans hx376_2
                    replace p376 := eq_true p376
                    replace q376 := eq_true q376
                    have p378 : 0 ≤ (x3_1 : Int) := of_decide_eq_true (by first | (with_reducible assumption) | assumption)
                    have q378 : x3_1 < (l0.length : Int) := of_decide_eq_true (by first | (with_reducible assumption) | assumption)
                    obtain ⟨ad378, e378, hx378_0, hx378_1, hx378_2⟩ := at_T80 HR0.out x3_1 p378 q378
                    have hw378_2 := hx378_2
                    have hw378_1 := hx378_1
                    have hw378_0 := hx378_0
                    obtain rfl : ad376 = ad378 := (by injection e378)
                    replace hx378_0 := (HB.out.cell (World.block_lt_of_cell? w _ hx378_0)).trans hx378_0
                    replace hx378_1 := (HB.out.cell (World.block_lt_of_cell? w _ hx378_1)).trans hx378_1
                    replace hx378_2 := (HB.out.cell (World.block_lt_of_cell? w _ hx378_2)).trans hx378_2
                    replace p378 := eq_true p378
                    replace q378 := eq_true q378
                    have p379 : 0 ≤ ((ji7) : Int) := of_decide_eq_true (by first | (with_reducible assumption) | assumption)
                    have q379 : (ji7) < (l0.length : Int) := of_decide_eq_true (by first | (with_reducible assumption) | assumption)
                    obtain ⟨ad379, e379, hx379_0, hx379_1, hx379_2⟩ := at_T80 HR0.out (ji7) p379 q379
                    have hw379_2 := hx379_2
                    have hw379_1 := hx379_1
                    have hw379_0 := hx379_0
                    obtain rfl : ad376 = ad379 := (by injection e379)
                    replace hx379_0 := (HB.out.cell (World.block_lt_of_cell? w _ hx379_0)).trans hx379_0
                    replace hx379_1 := (HB.out.cell (World.block_lt_of_cell? w _ hx379_1)).trans hx379_1
                    replace hx379_2 := (HB.out.cell (World.block_lt_of_cell? w _ hx379_2)).trans hx379_2
                    replace p379 := eq_true p379
                    replace q379 := eq_true q379
                    refine start_ (n := 24) (S := fun w' => w'.cell? (ad376.add ((x3_1).toNat * 3)) = some (.int .i64 ((rd_T80 l0 x3_1).f0)) ∧ w'.cell? ⟨(ad376.add ((x3_1).toNat * 3)).block, (ad376.add ((x3_1).toNat * 3)).off + 1, none⟩ = some (.string ((rd_T80 l0 x3_1).f1)) ∧ w'.cell? ⟨(ad376.add ((x3_1).toNat * 3)).block, (ad376.add ((x3_1).toNat * 3)).off + 2, none⟩ = some (.bool ((rd_T80 l0 x3_1).f2)) ∧ w'.cell? (ad376.add ((x3_1).toNat * 3)) = some (.int .i64 ((rd_T80 l0 x3_1).f0)) ∧ w'.cell? ⟨(ad376.add ((x3_1).toNat * 3)).block, (ad376.add ((x3_1).toNat * 3)).off + 1, none⟩ = some (.string ((rd_T80 l0 x3_1).f1)) ∧ w'.cell? ⟨(ad376.add ((x3_1).toNat * 3)).block, (ad376.add ((x3_1).toNat * 3)).off + 2, none⟩ = some (.bool ((rd_T80 l0 x3_1).f2)) ∧ w'.cell? (ad376.add (((ji7)).toNat * 3)) = some (.int .i64 ((rd_T80 l0 (ji7)).f0)) ∧ w'.cell? ⟨(ad376.add (((ji7)).toNat * 3)).block, (ad376.add (((ji7)).toNat * 3)).off + 1, none⟩ = some (.string ((rd_T80 l0 (ji7)).f1)) ∧ w'.cell? ⟨(ad376.add (((ji7)).toNat * 3)).block, (ad376.add (((ji7)).toNat * 3)).off + 2, none⟩ = some (.bool ((rd_T80 l0 (ji7)).f2))) (ds := []) #[false, false, false, false, false, false, false, false, false, false, false, false, false, false, false, false, false, false, false, false, false, false, false, false] (by kernel_rfl) rfl rfl ⟨((HB.out.cell (World.block_lt_of_cell? w _ hw376_0)).trans hw376_0), ((HB.out.cell (World.block_lt_of_cell? w _ hw376_1)).trans hw376_1), ((HB.out.cell (World.block_lt_of_cell? w _ hw376_2)).trans hw376_2), ((HB.out.cell (World.block_lt_of_cell? w _ hw378_0)).trans hw378_0), ((HB.out.cell (World.block_lt_of_cell? w _ hw378_1)).trans hw378_1), ((HB.out.cell (World.block_lt_of_cell? w _ hw378_2)).trans hw378_2), ((HB.out.cell (World.block_lt_of_cell? w _ hw379_0)).trans hw379_0), ((HB.out.cell (World.block_lt_of_cell? w _ hw379_1)).trans hw379_1), ((HB.out.cell (World.block_lt_of_cell? w _ hw379_2)).trans hw379_2)⟩ (fun hHeld => ?_); refine with_tabW ambryref13_Right.tab4 ambryref13_Right.bits4 (fun HT_ HW_ => ?_)
                    generalize wr.drew = w11 at HB hx376_0 hx376_1 hx376_2 hx378_0 hx378_1 hx378_2 hx379_0 hx379_1 hx379_2 hHeld ⊢
                    refine pure_ (i := 0) (N := some 10) (v := ?_) (a' := ?_) #[true, false, false, false, false, false, false, false, false, false, false, false, false, false, false, false, false, false, false, false, false, false, false, false] rfl rfl (any_of HT_.out (by kernel_rfl)) (fun _ _ _ h => h) (Or.inl ⟨by rfl, ?_⟩) ?_ ?_
                    rotate_left
                    · intro w'
                      go_simp
                      with_reducible rfl
                    rotate_left
                    · simp only [Act.put, List.setIfInBounds_toArray, List.set_cons_zero, List.set_cons_succ, i64_w, i32_w]
                      rfl
                    refine pure_ (i := 1) (N := some 11) (v := ?_) (a' := ?_) #[true, true, false, false, false, false, false, false, false, false, false, false, false, false, false, false, false, false, false, false, false, false, false, false] rfl rfl (any_of HT_.out (by kernel_rfl)) (fun _ _ _ h => h) (Or.inl ⟨by rfl, ?_⟩) ?_ ?_
                    rotate_left
                    · intro w'
                      go_simp
                      with_reducible rfl
                    rotate_left
                    · simp only [Act.put, List.setIfInBounds_toArray, List.set_cons_zero, List.set_cons_succ, i64_w, i32_w]
                      rfl
                    refine pure_ (i := 2) (N := some 12) (v := ?_) (a' := ?_) #[true, true, true, false, false, false, false, false, false, false, false, false, false, false, false, false, false, false, false, false, false, false, false, false] rfl rfl (any_of HT_.out (by kernel_rfl)) (fun _ _ _ h => h) (Or.inl ⟨by rfl, ?_⟩) ?_ ?_
                    rotate_left
                    · intro w'
                      go_simp
                      with_reducible rfl
                    rotate_left
                    · simp only [Act.put, List.setIfInBounds_toArray, List.set_cons_zero, List.set_cons_succ, i64_w, i32_w]
                      rfl
                    refine take_ (i := 3) (N := some 13) (v := ?_) (a' := ?_) #[true, true, true, true, false, false, false, false, false, false, false, false, false, false, false, false, false, false, false, false, false, false, false, false] rfl rfl (take_ofW HT_.out HW_.out (by kernel_rfl)) (fun _ _ _ h => h) (Or.inl ⟨by rfl, ?_⟩) hHeld ?_ ?_
                    rotate_left
                    · rintro w' ⟨s0, s1, s2, s3, s4, s5, s6, s7, s8⟩
                      go_simp
                      with_reducible rfl
                    rotate_left
                    · simp only [Act.put, List.setIfInBounds_toArray, List.set_cons_zero, List.set_cons_succ, i64_w, i32_w]
                      rfl
                    refine one_ (i := 4) (N := some 14) #[true, true, true, true, true, false, false, false, false, false, false, false, false, false, false, false, false, false, false, false, false, false, false, false] rfl rfl (one_of HT_.out (by kernel_rfl)) (by decide) (fun K hK => ?_)
                    refine goes_ Try.func93 (by kernel_rfl) rfl #[.agg #[.int .i64 ((rd_T80 l0 x3_1).f0), .string ((rd_T80 l0 x3_1).f1), .bool ((rd_T80 l0 x3_1).f2)]] (by rfl) rfl rfl (by (try simp only [List.map_toArray, List.map_cons, List.map_nil]); first | done | rfl | (simp only [List.length_drop, List.length_take]; rfl)) ?_
                    with_reducible refine (ambryref13_right.calls ((rd_T80 l0 x3_1).f0) ((rd_T80 l0 x3_1).f1) ((rd_T80 l0 x3_1).f2) true _ A4.out).mono ?_
                    rintro e w12 ⟨rfl, hb⟩
                    refine ⟨_, rfl, ?_⟩
                    have n0_ := Aside0.mk (below_step (by repeat (first | (with_reducible first | exact HB.out | apply below_alloc | apply pw_below_drewN | apply below_drew1) | exact HB.out)) hb)
                    clear HB
                    have HB := n0_
                    clear n0_
                    (try clear hb)
                    (try clear hb2)
                    (try clear hk)
                    (try clear hi)
                    refine hK.out _ _ ⟨((HB.out.cell (World.block_lt_of_cell? w _ hw376_0)).trans hw376_0), ((HB.out.cell (World.block_lt_of_cell? w _ hw376_1)).trans hw376_1), ((HB.out.cell (World.block_lt_of_cell? w _ hw376_2)).trans hw376_2), ((HB.out.cell (World.block_lt_of_cell? w _ hw378_0)).trans hw378_0), ((HB.out.cell (World.block_lt_of_cell? w _ hw378_1)).trans hw378_1), ((HB.out.cell (World.block_lt_of_cell? w _ hw378_2)).trans hw378_2), ((HB.out.cell (World.block_lt_of_cell? w _ hw379_0)).trans hw379_0), ((HB.out.cell (World.block_lt_of_cell? w _ hw379_1)).trans hw379_1), ((HB.out.cell (World.block_lt_of_cell? w _ hw379_2)).trans hw379_2)⟩ (fun hHeld => ?_)
                    clear hK K
                    refine norm_ (a' := ?_) ?_ ?_
                    rotate_left
                    · show Act.put _ (some 14) _ = _
                      simp only [Act.put, List.setIfInBounds_toArray, List.set_cons_zero, List.set_cons_succ, i64_w, i32_w]
                      rfl
                    refine pure_ (i := 5) (N := some 15) (v := ?_) (a' := ?_) #[true, true, true, true, true, true, false, false, false, false, false, false, false, false, false, false, false, false, false, false, false, false, false, false] rfl rfl (any_of HT_.out (by kernel_rfl)) (fun _ _ _ h => h) (Or.inl ⟨by rfl, ?_⟩) ?_ ?_
                    rotate_left
                    · intro w'
                      go_simp
                      with_reducible rfl
                    rotate_left
                    · simp only [Act.put, List.setIfInBounds_toArray, List.set_cons_zero, List.set_cons_succ, i64_w, i32_w]
                      rfl
                    refine pure_ (i := 6) (N := some 16) (v := ?_) (a' := ?_) #[true, true, true, true, true, true, true, false, false, false, false, false, false, false, false, false, false, false, false, false, false, false, false, false] rfl rfl (any_of HT_.out (by kernel_rfl)) (fun _ _ _ h => h) (Or.inl ⟨by rfl, ?_⟩) ?_ ?_
                    rotate_left
                    · intro w'
                      go_simp
                      with_reducible rfl
                    rotate_left
                    · simp only [Act.put, List.setIfInBounds_toArray, List.set_cons_zero, List.set_cons_succ, i64_w, i32_w]
                      rfl
                    refine pure_ (i := 7) (N := some 17) (v := ?_) (a' := ?_) #[true, true, true, true, true, true, true, true, false, false, false, false, false, false, false, false, false, false, false, false, false, false, false, false] rfl rfl (any_of HT_.out (by kernel_rfl)) (fun _ _ _ h => h) (Or.inl ⟨by rfl, ?_⟩) ?_ ?_
                    rotate_left
                    · intro w'
                      go_simp
                      with_reducible rfl
                    rotate_left
                    · simp only [Act.put, List.setIfInBounds_toArray, List.set_cons_zero, List.set_cons_succ, i64_w, i32_w]
                      rfl
                    refine pure_ (i := 8) (N := some 18) (v := ?_) (a' := ?_) #[true, true, true, true, true, true, true, true, true, false, false, false, false, false, false, false, false, false, false, false, false, false, false, false] rfl rfl (any_of HT_.out (by kernel_rfl)) (fun _ _ _ h => h) (Or.inl ⟨by rfl, ?_⟩) ?_ ?_
                    rotate_left
                    · intro w'
                      go_simp
                      with_reducible rfl
                    rotate_left
                    · simp only [Act.put, List.setIfInBounds_toArray, List.set_cons_zero, List.set_cons_succ, i64_w, i32_w]
                      rfl
                    refine pure_ (i := 9) (N := some 19) (v := ?_) (a' := ?_) #[true, true, true, true, true, true, true, true, true, true, false, false, false, false, false, false, false, false, false, false, false, false, false, false] rfl rfl (any_of HT_.out (by kernel_rfl)) (fun _ _ _ h => h) (Or.inl ⟨by rfl, ?_⟩) ?_ ?_
                    rotate_left
                    · intro w'
                      go_simp
                      with_reducible rfl
                    rotate_left
                    · simp only [Act.put, List.setIfInBounds_toArray, List.set_cons_zero, List.set_cons_succ, i64_w, i32_w]
                      rfl
                    refine pure_ (i := 10) (N := some 20) (v := ?_) (a' := ?_) #[true, true, true, true, true, true, true, true, true, true, true, false, false, false, false, false, false, false, false, false, false, false, false, false] rfl rfl (any_of HT_.out (by kernel_rfl)) (fun _ _ _ h => h) (Or.inl ⟨by rfl, ?_⟩) ?_ ?_
                    rotate_left
                    · intro w'
                      go_simp
                      with_reducible rfl
                    rotate_left
                    · simp only [Act.put, List.setIfInBounds_toArray, List.set_cons_zero, List.set_cons_succ, i64_w, i32_w]
                      rfl
                    refine pure_ (i := 11) (N := some 21) (v := ?_) (a' := ?_) #[true, true, true, true, true, true, true, true, true, true, true, true, false, false, false, false, false, false, false, false, false, false, false, false] rfl rfl (any_of HT_.out (by kernel_rfl)) (fun _ _ _ h => h) (Or.inl ⟨by rfl, ?_⟩) ?_ ?_
                    rotate_left
                    · intro w'
                      go_simp
                      with_reducible rfl
                    rotate_left
                    · simp only [Act.put, List.setIfInBounds_toArray, List.set_cons_zero, List.set_cons_succ, i64_w, i32_w]
                      rfl
                    refine pure_ (i := 12) (N := some 22) (v := ?_) (a' := ?_) #[true, true, true, true, true, true, true, true, true, true, true, true, true, false, false, false, false, false, false, false, false, false, false, false] rfl rfl (any_of HT_.out (by kernel_rfl)) (fun _ _ _ h => h) (Or.inl ⟨by rfl, ?_⟩) ?_ ?_
                    rotate_left
                    · intro w'
                      go_simp
                      with_reducible rfl
                    rotate_left
                    · simp only [Act.put, List.setIfInBounds_toArray, List.set_cons_zero, List.set_cons_succ, i64_w, i32_w]
                      rfl
                    refine pure_ (i := 13) (N := some 23) (v := ?_) (a' := ?_) #[true, true, true, true, true, true, true, true, true, true, true, true, true, true, false, false, false, false, false, false, false, false, false, false] rfl rfl (any_of HT_.out (by kernel_rfl)) (fun _ _ _ h => h) (Or.inl ⟨by rfl, ?_⟩) ?_ ?_
                    rotate_left
                    · intro w'
                      go_simp
                      with_reducible rfl
                    rotate_left
                    · simp only [Act.put, List.setIfInBounds_toArray, List.set_cons_zero, List.set_cons_succ, i64_w, i32_w]
                      rfl
                    refine pure_ (i := 15) (N := some 25) (v := ?_) (a' := ?_) #[true, true, true, true, true, true, true, true, true, true, true, true, true, true, false, true, false, false, false, false, false, false, false, false] rfl rfl (any_of HT_.out (by kernel_rfl)) (fun _ _ _ h => h) (Or.inl ⟨by rfl, ?_⟩) ?_ ?_
                    rotate_left
                    · intro w'
                      go_simp
                      with_reducible rfl
                    rotate_left
                    · simp only [Act.put, List.setIfInBounds_toArray, List.set_cons_zero, List.set_cons_succ, i64_w, i32_w]
                      rfl
                    refine pure_ (i := 16) (N := some 26) (v := ?_) (a' := ?_) #[true, true, true, true, true, true, true, true, true, true, true, true, true, true, false, true, true, false, false, false, false, false, false, false] rfl rfl (any_of HT_.out (by kernel_rfl)) (fun _ _ _ h => h) (Or.inl ⟨by rfl, ?_⟩) ?_ ?_
                    rotate_left
                    · intro w'
                      go_simp
                      with_reducible rfl
                    rotate_left
                    · simp only [Act.put, List.setIfInBounds_toArray, List.set_cons_zero, List.set_cons_succ, i64_w, i32_w]
                      rfl
                    refine pure_ (i := 17) (N := some 27) (v := ?_) (a' := ?_) #[true, true, true, true, true, true, true, true, true, true, true, true, true, true, false, true, true, true, false, false, false, false, false, false] rfl rfl (any_of HT_.out (by kernel_rfl)) (fun _ _ _ h => h) (Or.inl ⟨by rfl, ?_⟩) ?_ ?_
                    rotate_left
                    · intro w'
                      go_simp
                      with_reducible rfl
                    rotate_left
                    · simp only [Act.put, List.setIfInBounds_toArray, List.set_cons_zero, List.set_cons_succ, i64_w, i32_w]
                      rfl
                    refine pure_ (i := 18) (N := some 28) (v := ?_) (a' := ?_) #[true, true, true, true, true, true, true, true, true, true, true, true, true, true, false, true, true, true, true, false, false, false, false, false] rfl rfl (any_of HT_.out (by kernel_rfl)) (fun _ _ _ h => h) (Or.inl ⟨by rfl, ?_⟩) ?_ ?_
                    rotate_left
                    · intro w'
                      go_simp
                      with_reducible rfl
                    rotate_left
                    · simp only [Act.put, List.setIfInBounds_toArray, List.set_cons_zero, List.set_cons_succ, i64_w, i32_w]
                      rfl
                    refine pure_ (i := 19) (N := some 29) (v := ?_) (a' := ?_) #[true, true, true, true, true, true, true, true, true, true, true, true, true, true, false, true, true, true, true, true, false, false, false, false] rfl rfl (any_of HT_.out (by kernel_rfl)) (fun _ _ _ h => h) (Or.inl ⟨by rfl, ?_⟩) ?_ ?_
                    rotate_left
                    · intro w'
                      go_simp
                      with_reducible rfl
                    rotate_left
                    · simp only [Act.put, List.setIfInBounds_toArray, List.set_cons_zero, List.set_cons_succ, i64_w, i32_w]
                      rfl
                    refine take_ (i := 14) (N := some 24) (v := ?_) (a' := ?_) #[true, true, true, true, true, true, true, true, true, true, true, true, true, true, true, true, true, true, true, true, false, false, false, false] rfl rfl (take_ofW HT_.out HW_.out (by kernel_rfl)) (fun _ _ _ h => h) (Or.inl ⟨by rfl, ?_⟩) hHeld ?_ ?_
                    rotate_left
                    · rintro w' ⟨s0, s1, s2, s3, s4, s5, s6, s7, s8⟩
                      go_simp
                      with_reducible rfl
                    rotate_left
                    · simp only [Act.put, List.setIfInBounds_toArray, List.set_cons_zero, List.set_cons_succ, i64_w, i32_w]
                      rfl
                    refine take_ (i := 20) (N := some 30) (v := ?_) (a' := ?_) #[true, true, true, true, true, true, true, true, true, true, true, true, true, true, true, true, true, true, true, true, true, false, false, false] rfl rfl (take_ofW HT_.out HW_.out (by kernel_rfl)) (fun _ _ _ h => h) (Or.inl ⟨by rfl, ?_⟩) hHeld ?_ ?_
                    rotate_left
                    · rintro w' ⟨s0, s1, s2, s3, s4, s5, s6, s7, s8⟩
                      go_simp
                      with_reducible rfl
                    rotate_left
                    · simp only [Act.put, List.setIfInBounds_toArray, List.set_cons_zero, List.set_cons_succ, i64_w, i32_w]
                      rfl
                    refine pure_ (i := 21) (N := some 31) (v := ?_) (a' := ?_) #[true, true, true, true, true, true, true, true, true, true, true, true, true, true, true, true, true, true, true, true, true, true, false, false] rfl rfl (any_of HT_.out (by kernel_rfl)) (fun _ _ _ h => h) (Or.inl ⟨by rfl, ?_⟩) ?_ ?_
                    rotate_left
                    · intro w'
                      go_simp
                      with_reducible rfl
                    rotate_left
                    · simp only [Act.put, List.setIfInBounds_toArray, List.set_cons_zero, List.set_cons_succ, i64_w, i32_w]
                      rfl
                    refine pure_ (i := 22) (N := some 32) (v := ?_) (a' := ?_) #[true, true, true, true, true, true, true, true, true, true, true, true, true, true, true, true, true, true, true, true, true, true, true, false] rfl rfl (any_of HT_.out (by kernel_rfl)) (fun _ _ _ h => h) (Or.inl ⟨by rfl, ?_⟩) ?_ ?_
                    rotate_left
                    · intro w'
                      go_simp
                      with_reducible rfl
                    rotate_left
                    · simp only [Act.put, List.setIfInBounds_toArray, List.set_cons_zero, List.set_cons_succ, i64_w, i32_w]
                      rfl
                    refine pure_ (i := 23) (N := some 33) (v := ?_) (a' := ?_) #[true, true, true, true, true, true, true, true, true, true, true, true, true, true, true, true, true, true, true, true, true, true, true, true] rfl rfl (any_of HT_.out (by kernel_rfl)) (fun _ _ _ h => h) (Or.inl ⟨by rfl, ?_⟩) ?_ ?_
                    rotate_left
                    · intro w'
                      go_simp
                      with_reducible rfl
                    rotate_left
                    · simp only [Act.put, List.setIfInBounds_toArray, List.set_cons_zero, List.set_cons_succ, i64_w, i32_w]
                      rfl
                    refine done_ (done_of HT_.out (by kernel_rfl)) ?_
                    try go_wp2
                    go_ret
                    exact ⟨by first | rfl | (simp [errW_none, errW_some] <;> rfl) | (simp only [← hji7]; first | rfl | (simp [errW_none, errW_some] <;> rfl)) | (simp [*, errW_none, errW_some] <;> rfl), by repeat (first | (with_reducible first | exact HB.out | apply below_alloc | apply pw_below_drewN | apply below_drew1) | exact HB.out)⟩
                  · rw [if_neg c10] at H
                    have c10b0 : decide (((rd_T80 l0 (ji7)).f0) ≤ ((rd_T80 l0 x3_1).f0)) = false := decide_eq_false c10
                    clear c10
                    have H' := Aside0.mk H
                    clear H
                    try go_wp2
                    have n0_ := Aside0.mk (below_drew1 HB.out)
                    clear HB
                    have HB := n0_
                    clear n0_
                    have p376 : 0 ≤ (x3_1 : Int) := of_decide_eq_true (by first | (with_reducible assumption) | assumption)
                    have q376 : x3_1 < (l0.length : Int) := of_decide_eq_true (by first | (with_reducible assumption) | assumption)
                    obtain ⟨ad376, e376, hx376_0, hx376_1, hx376_2⟩ := at_T80 HR0.out x3_1 p376 q376
                    have hw376_2 := hx376_2
                    have hw376_1 := hx376_1
                    have hw376_0 := hx376_0
                    cases e376
                    replace hx376_0 := (HB.out.cell (World.block_lt_of_cell? w _ hx376_0)).trans hx376_0
                    replace hx376_1 := (HB.out.cell (World.block_lt_of_cell? w _ hx376_1)).trans hx376_1
                    replace hx376_2 := (HB.out.cell (World.block_lt_of_cell? w _ hx376_2)).trans hx376_2
                    replace p376 := eq_true p376
                    replace q376 := eq_true q376
                    have p378 : 0 ≤ (x3_1 : Int) := of_decide_eq_true (by first | (with_reducible assumption) | assumption)
                    have q378 : x3_1 < (l0.length : Int) := of_decide_eq_true (by first | (with_reducible assumption) | assumption)
                    obtain ⟨ad378, e378, hx378_0, hx378_1, hx378_2⟩ := at_T80 HR0.out x3_1 p378 q378
                    have hw378_2 := hx378_2
                    have hw378_1 := hx378_1
                    have hw378_0 := hx378_0
                    obtain rfl : ad376 = ad378 := (by injection e378)
                    replace hx378_0 := (HB.out.cell (World.block_lt_of_cell? w _ hx378_0)).trans hx378_0
                    replace hx378_1 := (HB.out.cell (World.block_lt_of_cell? w _ hx378_1)).trans hx378_1
                    replace hx378_2 := (HB.out.cell (World.block_lt_of_cell? w _ hx378_2)).trans hx378_2
                    replace p378 := eq_true p378
                    replace q378 := eq_true q378
                    have p379 : 0 ≤ ((ji7) : Int) := of_decide_eq_true (by first | (with_reducible assumption) | assumption)
                    have q379 : (ji7) < (l0.length : Int) := of_decide_eq_true (by first | (with_reducible assumption) | assumption)
                    obtain ⟨ad379, e379, hx379_0, hx379_1, hx379_2⟩ := at_T80 HR0.out (ji7) p379 q379
                    have hw379_2 := hx379_2
                    have hw379_1 := hx379_1
                    have hw379_0 := hx379_0
                    obtain rfl : ad376 = ad379 := (by injection e379)
                    replace hx379_0 := (HB.out.cell (World.block_lt_of_cell? w _ hx379_0)).trans hx379_0
                    replace hx379_1 := (HB.out.cell (World.block_lt_of_cell? w _ hx379_1)).trans hx379_1
                    replace hx379_2 := (HB.out.cell (World.block_lt_of_cell? w _ hx379_2)).trans hx379_2
                    replace p379 := eq_true p379
                    replace q379 := eq_true q379
                    refine start_ (n := 24) (S := fun w' => w'.cell? (ad376.add ((x3_1).toNat * 3)) = some (.int .i64 ((rd_T80 l0 x3_1).f0)) ∧ w'.cell? ⟨(ad376.add ((x3_1).toNat * 3)).block, (ad376.add ((x3_1).toNat * 3)).off + 1, none⟩ = some (.string ((rd_T80 l0 x3_1).f1)) ∧ w'.cell? ⟨(ad376.add ((x3_1).toNat * 3)).block, (ad376.add ((x3_1).toNat * 3)).off + 2, none⟩ = some (.bool ((rd_T80 l0 x3_1).f2)) ∧ w'.cell? (ad376.add ((x3_1).toNat * 3)) = some (.int .i64 ((rd_T80 l0 x3_1).f0)) ∧ w'.cell? ⟨(ad376.add ((x3_1).toNat * 3)).block, (ad376.add ((x3_1).toNat * 3)).off + 1, none⟩ = some (.string ((rd_T80 l0 x3_1).f1)) ∧ w'.cell? ⟨(ad376.add ((x3_1).toNat * 3)).block, (ad376.add ((x3_1).toNat * 3)).off + 2, none⟩ = some (.bool ((rd_T80 l0 x3_1).f2)) ∧ w'.cell? (ad376.add (((ji7)).toNat * 3)) = some (.int .i64 ((rd_T80 l0 (ji7)).f0)) ∧ w'.cell? ⟨(ad376.add (((ji7)).toNat * 3)).block, (ad376.add (((ji7)).toNat * 3)).off + 1, none⟩ = some (.string ((rd_T80 l0 (ji7)).f1)) ∧ w'.cell? ⟨(ad376.add (((ji7)).toNat * 3)).block, (ad376.add (((ji7)).toNat * 3)).off + 2, none⟩ = some (.bool ((rd_T80 l0 (ji7)).f2))) (ds := []) #[false, false, false, false, false, false, false, false, false, false, false, false, false, false, false, false, false, false, false, false, false, false, false, false] (by kernel_rfl) rfl rfl ⟨((HB.out.cell (World.block_lt_of_cell? w _ hw376_0)).trans hw376_0), ((HB.out.cell (World.block_lt_of_cell? w _ hw376_1)).trans hw376_1), ((HB.out.cell (World.block_lt_of_cell? w _ hw376_2)).trans hw376_2), ((HB.out.cell (World.block_lt_of_cell? w _ hw378_0)).trans hw378_0), ((HB.out.cell (World.block_lt_of_cell? w _ hw378_1)).trans hw378_1), ((HB.out.cell (World.block_lt_of_cell? w _ hw378_2)).trans hw378_2), ((HB.out.cell (World.block_lt_of_cell? w _ hw379_0)).trans hw379_0), ((HB.out.cell (World.block_lt_of_cell? w _ hw379_1)).trans hw379_1), ((HB.out.cell (World.block_lt_of_cell? w _ hw379_2)).trans hw379_2)⟩ (fun hHeld => ?_); refine with_tabW ambryref13_Right.tab4 ambryref13_Right.bits4 (fun HT_ HW_ => ?_)
                    generalize wr.drew = w13 at HB hx376_0 hx376_1 hx376_2 hx378_0 hx378_1 hx378_2 hx379_0 hx379_1 hx379_2 hHeld ⊢
                    refine pure_ (i := 0) (N := some 10) (v := ?_) (a' := ?_) #[true, false, false, false, false, false, false, false, false, false, false, false, false, false, false, false, false, false, false, false, false, false, false, false] rfl rfl (any_of HT_.out (by kernel_rfl)) (fun _ _ _ h => h) (Or.inl ⟨by rfl, ?_⟩) ?_ ?_
                    rotate_left
                    · intro w'
                      go_simp
                      with_reducible rfl
                    rotate_left
                    · simp only [Act.put, List.setIfInBounds_toArray, List.set_cons_zero, List.set_cons_succ, i64_w, i32_w]
                      rfl
                    refine pure_ (i := 1) (N := some 11) (v := ?_) (a' := ?_) #[true, true, false, false, false, false, false, false, false, false, false, false, false, false, false, false, false, false, false, false, false, false, false, false] rfl rfl (any_of HT_.out (by kernel_rfl)) (fun _ _ _ h => h) (Or.inl ⟨by rfl, ?_⟩) ?_ ?_
                    rotate_left
                    · intro w'
                      go_simp
                      with_reducible rfl
                    rotate_left
                    · simp only [Act.put, List.setIfInBounds_toArray, List.set_cons_zero, List.set_cons_succ, i64_w, i32_w]
                      rfl
                    refine pure_ (i := 2) (N := some 12) (v := ?_) (a' := ?_) #[true, true, true, false, false, false, false, false, false, false, false, false, false, false, false, false, false, false, false, false, false, false, false, false] rfl rfl (any_of HT_.out (by kernel_rfl)) (fun _ _ _ h => h) (Or.inl ⟨by rfl, ?_⟩) ?_ ?_
                    rotate_left
                    · intro w'
                      go_simp
                      with_reducible rfl
                    rotate_left
                    · simp only [Act.put, List.setIfInBounds_toArray, List.set_cons_zero, List.set_cons_succ, i64_w, i32_w]
                      rfl
                    refine take_ (i := 3) (N := some 13) (v := ?_) (a' := ?_) #[true, true, true, true, false, false, false, false, false, false, false, false, false, false, false, false, false, false, false, false, false, false, false, false] rfl rfl (take_ofW HT_.out HW_.out (by kernel_rfl)) (fun _ _ _ h => h) (Or.inl ⟨by rfl, ?_⟩) hHeld ?_ ?_
                    rotate_left
                    · rintro w' ⟨s0, s1, s2, s3, s4, s5, s6, s7, s8⟩
                      go_simp
                      with_reducible rfl
                    rotate_left
                    · simp only [Act.put, List.setIfInBounds_toArray, List.set_cons_zero, List.set_cons_succ, i64_w, i32_w]
                      rfl
                    refine one_ (i := 4) (N := some 14) #[true, true, true, true, true, false, false, false, false, false, false, false, false, false, false, false, false, false, false, false, false, false, false, false] rfl rfl (one_of HT_.out (by kernel_rfl)) (by decide) (fun K hK => ?_)
                    refine goes_ Try.func93 (by kernel_rfl) rfl #[.agg #[.int .i64 ((rd_T80 l0 x3_1).f0), .string ((rd_T80 l0 x3_1).f1), .bool ((rd_T80 l0 x3_1).f2)]] (by rfl) rfl rfl (by (try simp only [List.map_toArray, List.map_cons, List.map_nil]); first | done | rfl | (simp only [List.length_drop, List.length_take]; rfl)) ?_
                    with_reducible refine (ambryref13_right.calls ((rd_T80 l0 x3_1).f0) ((rd_T80 l0 x3_1).f1) ((rd_T80 l0 x3_1).f2) true _ A4.out).mono ?_
                    rintro e w14 ⟨rfl, hb⟩
                    refine ⟨_, rfl, ?_⟩
                    have n0_ := Aside0.mk (below_step (by repeat (first | (with_reducible first | exact HB.out | apply below_alloc | apply pw_below_drewN | apply below_drew1) | exact HB.out)) hb)
                    clear HB
                    have HB := n0_
                    clear n0_
                    (try clear hb)
                    (try clear hb2)
                    (try clear hk)
                    (try clear hi)
                    refine hK.out _ _ ⟨((HB.out.cell (World.block_lt_of_cell? w _ hw376_0)).trans hw376_0), ((HB.out.cell (World.block_lt_of_cell? w _ hw376_1)).trans hw376_1), ((HB.out.cell (World.block_lt_of_cell? w _ hw376_2)).trans hw376_2), ((HB.out.cell (World.block_lt_of_cell? w _ hw378_0)).trans hw378_0), ((HB.out.cell (World.block_lt_of_cell? w _ hw378_1)).trans hw378_1), ((HB.out.cell (World.block_lt_of_cell? w _ hw378_2)).trans hw378_2), ((HB.out.cell (World.block_lt_of_cell? w _ hw379_0)).trans hw379_0), ((HB.out.cell (World.block_lt_of_cell? w _ hw379_1)).trans hw379_1), ((HB.out.cell (World.block_lt_of_cell? w _ hw379_2)).trans hw379_2)⟩ (fun hHeld => ?_)
                    clear hK K
                    refine norm_ (a' := ?_) ?_ ?_
                    rotate_left
                    · show Act.put _ (some 14) _ = _
                      simp only [Act.put, List.setIfInBounds_toArray, List.set_cons_zero, List.set_cons_succ, i64_w, i32_w]
                      rfl
                    refine pure_ (i := 5) (N := some 15) (v := ?_) (a' := ?_) #[true, true, true, true, true, true, false, false, false, false, false, false, false, false, false, false, false, false, false, false, false, false, false, false] rfl rfl (any_of HT_.out (by kernel_rfl)) (fun _ _ _ h => h) (Or.inl ⟨by rfl, ?_⟩) ?_ ?_
                    rotate_left
                    · intro w'
                      go_simp
                      with_reducible rfl
                    rotate_left
                    · simp only [Act.put, List.setIfInBounds_toArray, List.set_cons_zero, List.set_cons_succ, i64_w, i32_w]
                      rfl
                    refine pure_ (i := 6) (N := some 16) (v := ?_) (a' := ?_) #[true, true, true, true, true, true, true, false, false, false, false, false, false, false, false, false, false, false, false, false, false, false, false, false] rfl rfl (any_of HT_.out (by kernel_rfl)) (fun _ _ _ h => h) (Or.inl ⟨by rfl, ?_⟩) ?_ ?_
                    rotate_left
                    · intro w'
                      go_simp
                      with_reducible rfl
                    rotate_left
                    · simp only [Act.put, List.setIfInBounds_toArray, List.set_cons_zero, List.set_cons_succ, i64_w, i32_w]
                      rfl
                    refine pure_ (i := 7) (N := some 17) (v := ?_) (a' := ?_) #[true, true, true, true, true, true, true, true, false, false, false, false, false, false, false, false, false, false, false, false, false, false, false, false] rfl rfl (any_of HT_.out (by kernel_rfl)) (fun _ _ _ h => h) (Or.inl ⟨by rfl, ?_⟩) ?_ ?_
                    rotate_left
                    · intro w'
                      go_simp
                      with_reducible rfl
                    rotate_left
                    · simp only [Act.put, List.setIfInBounds_toArray, List.set_cons_zero, List.set_cons_succ, i64_w, i32_w]
                      rfl
                    refine pure_ (i := 8) (N := some 18) (v := ?_) (a' := ?_) #[true, true, true, true, true, true, true, true, true, false, false, false, false, false, false, false, false, false, false, false, false, false, false, false] rfl rfl (any_of HT_.out (by kernel_rfl)) (fun _ _ _ h => h) (Or.inl ⟨by rfl, ?_⟩) ?_ ?_
                    rotate_left
                    · intro w'
                      go_simp
                      with_reducible rfl
                    rotate_left
                    · simp only [Act.put, List.setIfInBounds_toArray, List.set_cons_zero, List.set_cons_succ, i64_w, i32_w]
                      rfl
                    refine pure_ (i := 9) (N := some 19) (v := ?_) (a' := ?_) #[true, true, true, true, true, true, true, true, true, true, false, false, false, false, false, false, false, false, false, false, false, false, false, false] rfl rfl (any_of HT_.out (by kernel_rfl)) (fun _ _ _ h => h) (Or.inl ⟨by rfl, ?_⟩) ?_ ?_
                    rotate_left
                    · intro w'
                      go_simp
                      with_reducible rfl
                    rotate_left
                    · simp only [Act.put, List.setIfInBounds_toArray, List.set_cons_zero, List.set_cons_succ, i64_w, i32_w]
                      rfl
                    refine pure_ (i := 10) (N := some 20) (v := ?_) (a' := ?_) #[true, true, true, true, true, true, true, true, true, true, true, false, false, false, false, false, false, false, false, false, false, false, false, false] rfl rfl (any_of HT_.out (by kernel_rfl)) (fun _ _ _ h => h) (Or.inl ⟨by rfl, ?_⟩) ?_ ?_
                    rotate_left
                    · intro w'
                      go_simp
                      with_reducible rfl
                    rotate_left
                    · simp only [Act.put, List.setIfInBounds_toArray, List.set_cons_zero, List.set_cons_succ, i64_w, i32_w]
                      rfl
                    refine pure_ (i := 11) (N := some 21) (v := ?_) (a' := ?_) #[true, true, true, true, true, true, true, true, true, true, true, true, false, false, false, false, false, false, false, false, false, false, false, false] rfl rfl (any_of HT_.out (by kernel_rfl)) (fun _ _ _ h => h) (Or.inl ⟨by rfl, ?_⟩) ?_ ?_
                    rotate_left
                    · intro w'
                      go_simp
                      with_reducible rfl
                    rotate_left
                    · simp only [Act.put, List.setIfInBounds_toArray, List.set_cons_zero, List.set_cons_succ, i64_w, i32_w]
                      rfl
                    refine pure_ (i := 12) (N := some 22) (v := ?_) (a' := ?_) #[true, true, true, true, true, true, true, true, true, true, true, true, true, false, false, false, false, false, false, false, false, false, false, false] rfl rfl (any_of HT_.out (by kernel_rfl)) (fun _ _ _ h => h) (Or.inl ⟨by rfl, ?_⟩) ?_ ?_
                    rotate_left
                    · intro w'
                      go_simp
                      with_reducible rfl
                    rotate_left
                    · simp only [Act.put, List.setIfInBounds_toArray, List.set_cons_zero, List.set_cons_succ, i64_w, i32_w]
                      rfl
                    refine pure_ (i := 13) (N := some 23) (v := ?_) (a' := ?_) #[true, true, true, true, true, true, true, true, true, true, true, true, true, true, false, false, false, false, false, false, false, false, false, false] rfl rfl (any_of HT_.out (by kernel_rfl)) (fun _ _ _ h => h) (Or.inl ⟨by rfl, ?_⟩) ?_ ?_
                    rotate_left
                    · intro w'
                      go_simp
                      with_reducible rfl
                    rotate_left
                    · simp only [Act.put, List.setIfInBounds_toArray, List.set_cons_zero, List.set_cons_succ, i64_w, i32_w]
                      rfl
                    refine pure_ (i := 15) (N := some 25) (v := ?_) (a' := ?_) #[true, true, true, true, true, true, true, true, true, true, true, true, true, true, false, true, false, false, false, false, false, false, false, false] rfl rfl (any_of HT_.out (by kernel_rfl)) (fun _ _ _ h => h) (Or.inl ⟨by rfl, ?_⟩) ?_ ?_
                    rotate_left
                    · intro w'
                      go_simp
                      with_reducible rfl
                    rotate_left
                    · simp only [Act.put, List.setIfInBounds_toArray, List.set_cons_zero, List.set_cons_succ, i64_w, i32_w]
                      rfl
                    refine pure_ (i := 16) (N := some 26) (v := ?_) (a' := ?_) #[true, true, true, true, true, true, true, true, true, true, true, true, true, true, false, true, true, false, false, false, false, false, false, false] rfl rfl (any_of HT_.out (by kernel_rfl)) (fun _ _ _ h => h) (Or.inl ⟨by rfl, ?_⟩) ?_ ?_
                    rotate_left
                    · intro w'
                      go_simp
                      with_reducible rfl
                    rotate_left
                    · simp only [Act.put, List.setIfInBounds_toArray, List.set_cons_zero, List.set_cons_succ, i64_w, i32_w]
                      rfl
                    refine pure_ (i := 17) (N := some 27) (v := ?_) (a' := ?_) #[true, true, true, true, true, true, true, true, true, true, true, true, true, true, false, true, true, true, false, false, false, false, false, false] rfl rfl (any_of HT_.out (by kernel_rfl)) (fun _ _ _ h => h) (Or.inl ⟨by rfl, ?_⟩) ?_ ?_
                    rotate_left
                    · intro w'
                      go_simp
                      with_reducible rfl
                    rotate_left
                    · simp only [Act.put, List.setIfInBounds_toArray, List.set_cons_zero, List.set_cons_succ, i64_w, i32_w]
                      rfl
                    refine pure_ (i := 18) (N := some 28) (v := ?_) (a' := ?_) #[true, true, true, true, true, true, true, true, true, true, true, true, true, true, false, true, true, true, true, false, false, false, false, false] rfl rfl (any_of HT_.out (by kernel_rfl)) (fun _ _ _ h => h) (Or.inl ⟨by rfl, ?_⟩) ?_ ?_
                    rotate_left
                    · intro w'
                      go_simp
                      with_reducible rfl
                    rotate_left
                    · simp only [Act.put, List.setIfInBounds_toArray, List.set_cons_zero, List.set_cons_succ, i64_w, i32_w]
                      rfl
                    refine pure_ (i := 19) (N := some 29) (v := ?_) (a' := ?_) #[true, true, true, true, true, true, true, true, true, true, true, true, true, true, false, true, true, true, true, true, false, false, false, false] rfl rfl (any_of HT_.out (by kernel_rfl)) (fun _ _ _ h => h) (Or.inl ⟨by rfl, ?_⟩) ?_ ?_
                    rotate_left
                    · intro w'
                      go_simp
                      with_reducible rfl
                    rotate_left
                    · simp only [Act.put, List.setIfInBounds_toArray, List.set_cons_zero, List.set_cons_succ, i64_w, i32_w]
                      rfl
                    refine take_ (i := 14) (N := some 24) (v := ?_) (a' := ?_) #[true, true, true, true, true, true, true, true, true, true, true, true, true, true, true, true, true, true, true, true, false, false, false, false] rfl rfl (take_ofW HT_.out HW_.out (by kernel_rfl)) (fun _ _ _ h => h) (Or.inl ⟨by rfl, ?_⟩) hHeld ?_ ?_
                    rotate_left
                    · rintro w' ⟨s0, s1, s2, s3, s4, s5, s6, s7, s8⟩
                      go_simp
                      with_reducible rfl
                    rotate_left
                    · simp only [Act.put, List.setIfInBounds_toArray, List.set_cons_zero, List.set_cons_succ, i64_w, i32_w]
                      rfl
                    refine take_ (i := 20) (N := some 30) (v := ?_) (a' := ?_) #[true, true, true, true, true, true, true, true, true, true, true, true, true, true, true, true, true, true, true, true, true, false, false, false] rfl rfl (take_ofW HT_.out HW_.out (by kernel_rfl)) (fun _ _ _ h => h) (Or.inl ⟨by rfl, ?_⟩) hHeld ?_ ?_
                    rotate_left
                    · rintro w' ⟨s0, s1, s2, s3, s4, s5, s6, s7, s8⟩
                      go_simp
                      with_reducible rfl
                    rotate_left
                    · simp only [Act.put, List.setIfInBounds_toArray, List.set_cons_zero, List.set_cons_succ, i64_w, i32_w]
                      rfl
                    refine pure_ (i := 21) (N := some 31) (v := ?_) (a' := ?_) #[true, true, true, true, true, true, true, true, true, true, true, true, true, true, true, true, true, true, true, true, true, true, false, false] rfl rfl (any_of HT_.out (by kernel_rfl)) (fun _ _ _ h => h) (Or.inl ⟨by rfl, ?_⟩) ?_ ?_
                    rotate_left
                    · intro w'
                      go_simp
                      with_reducible rfl
                    rotate_left
                    · simp only [Act.put, List.setIfInBounds_toArray, List.set_cons_zero, List.set_cons_succ, i64_w, i32_w]
                      rfl
                    refine pure_ (i := 22) (N := some 32) (v := ?_) (a' := ?_) #[true, true, true, true, true, true, true, true, true, true, true, true, true, true, true, true, true, true, true, true, true, true, true, false] rfl rfl (any_of HT_.out (by kernel_rfl)) (fun _ _ _ h => h) (Or.inl ⟨by rfl, ?_⟩) ?_ ?_
                    rotate_left
                    · intro w'
                      go_simp
                      with_reducible rfl
                    rotate_left
                    · simp only [Act.put, List.setIfInBounds_toArray, List.set_cons_zero, List.set_cons_succ, i64_w, i32_w]
                      rfl
                    refine pure_ (i := 23) (N := some 33) (v := ?_) (a' := ?_) #[true, true, true, true, true, true, true, true, true, true, true, true, true, true, true, true, true, true, true, true, true, true, true, true] rfl rfl (any_of HT_.out (by kernel_rfl)) (fun _ _ _ h => h) (Or.inl ⟨by rfl, ?_⟩) ?_ ?_
                    rotate_left
                    · intro w'
                      go_simp
                      with_reducible rfl
                    rotate_left
                    · simp only [Act.put, List.setIfInBounds_toArray, List.set_cons_zero, List.set_cons_succ, i64_w, i32_w]
                      rfl
                    refine done_ (done_of HT_.out (by kernel_rfl)) ?_
                    try go_wp2
                    go_roundg k1
                    case measure => have := HK1.out; omega
                    case rel => exact ⟨(wrap64 (x3_1 + 1)), (by first | rfl | (simp; done) | (simp [*]; done)), H', ⟨by have := HK1.out; omega⟩, ⟨by repeat (first | (with_reducible first | exact HB.out | apply below_alloc | apply pw_below_drewN | apply below_drew1) | exact HB.out)⟩⟩
                · rw [if_neg c9] at H
                  exact absurd H (by simp)
              · rw [if_neg c8] at H
                exact absurd H (by simp)
            · rw [if_neg c6] at H
              have c6b0 : decide (0 < x3_1) = false := decide_eq_false c6
              clear c6
              have H' := Aside0.mk H
              clear H
              try go_wp2
              have n0_ := Aside0.mk (below_drew1 HB.out)
              clear HB
              have HB := n0_
              clear n0_
              have p376 : 0 ≤ (x3_1 : Int) := of_decide_eq_true (by first | (with_reducible assumption) | assumption)
              have q376 : x3_1 < (l0.length : Int) := of_decide_eq_true (by first | (with_reducible assumption) | assumption)
              obtain ⟨ad376, e376, hx376_0, hx376_1, hx376_2⟩ := at_T80 HR0.out x3_1 p376 q376
              have hw376_2 := hx376_2
              have hw376_1 := hx376_1
              have hw376_0 := hx376_0
              cases e376
              replace hx376_0 := (HB.out.cell (World.block_lt_of_cell? w _ hx376_0)).trans hx376_0
              replace hx376_1 := (HB.out.cell (World.block_lt_of_cell? w _ hx376_1)).trans hx376_1
              replace hx376_2 := (HB.out.cell (World.block_lt_of_cell? w _ hx376_2)).trans hx376_2
              replace p376 := eq_true p376
              replace q376 := eq_true q376
              refine start_ (n := 24) (S := fun w' => w'.cell? (ad376.add ((x3_1).toNat * 3)) = some (.int .i64 ((rd_T80 l0 x3_1).f0)) ∧ w'.cell? ⟨(ad376.add ((x3_1).toNat * 3)).block, (ad376.add ((x3_1).toNat * 3)).off + 1, none⟩ = some (.string ((rd_T80 l0 x3_1).f1)) ∧ w'.cell? ⟨(ad376.add ((x3_1).toNat * 3)).block, (ad376.add ((x3_1).toNat * 3)).off + 2, none⟩ = some (.bool ((rd_T80 l0 x3_1).f2))) (ds := []) #[false, false, false, false, false, false, false, false, false, false, false, false, false, false, false, false, false, false, false, false, false, false, false, false] (by kernel_rfl) rfl rfl ⟨((HB.out.cell (World.block_lt_of_cell? w _ hw376_0)).trans hw376_0), ((HB.out.cell (World.block_lt_of_cell? w _ hw376_1)).trans hw376_1), ((HB.out.cell (World.block_lt_of_cell? w _ hw376_2)).trans hw376_2)⟩ (fun hHeld => ?_); refine with_tabW ambryref13_Right.tab4 ambryref13_Right.bits4 (fun HT_ HW_ => ?_)
              generalize wr.drew = w15 at HB hx376_0 hx376_1 hx376_2 hHeld ⊢
              refine pure_ (i := 0) (N := some 10) (v := ?_) (a' := ?_) #[true, false, false, false, false, false, false, false, false, false, false, false, false, false, false, false, false, false, false, false, false, false, false, false] rfl rfl (any_of HT_.out (by kernel_rfl)) (fun _ _ _ h => h) (Or.inl ⟨by rfl, ?_⟩) ?_ ?_
              rotate_left
              · intro w'
                go_simp
                with_reducible rfl
              rotate_left
              · simp only [Act.put, List.setIfInBounds_toArray, List.set_cons_zero, List.set_cons_succ, i64_w, i32_w]
                rfl
              refine pure_ (i := 1) (N := some 11) (v := ?_) (a' := ?_) #[true, true, false, false, false, false, false, false, false, false, false, false, false, false, false, false, false, false, false, false, false, false, false, false] rfl rfl (any_of HT_.out (by kernel_rfl)) (fun _ _ _ h => h) (Or.inl ⟨by rfl, ?_⟩) ?_ ?_
              rotate_left
              · intro w'
                go_simp
                with_reducible rfl
              rotate_left
              · simp only [Act.put, List.setIfInBounds_toArray, List.set_cons_zero, List.set_cons_succ, i64_w, i32_w]
                rfl
              refine pure_ (i := 2) (N := some 12) (v := ?_) (a' := ?_) #[true, true, true, false, false, false, false, false, false, false, false, false, false, false, false, false, false, false, false, false, false, false, false, false] rfl rfl (any_of HT_.out (by kernel_rfl)) (fun _ _ _ h => h) (Or.inl ⟨by rfl, ?_⟩) ?_ ?_
              rotate_left
              · intro w'
                go_simp
                with_reducible rfl
              rotate_left
              · simp only [Act.put, List.setIfInBounds_toArray, List.set_cons_zero, List.set_cons_succ, i64_w, i32_w]
                rfl
              refine take_ (i := 3) (N := some 13) (v := ?_) (a' := ?_) #[true, true, true, true, false, false, false, false, false, false, false, false, false, false, false, false, false, false, false, false, false, false, false, false] rfl rfl (take_ofW HT_.out HW_.out (by kernel_rfl)) (fun _ _ _ h => h) (Or.inl ⟨by rfl, ?_⟩) hHeld ?_ ?_
              rotate_left
              · rintro w' ⟨s0, s1, s2⟩
                go_simp
                with_reducible rfl
              rotate_left
              · simp only [Act.put, List.setIfInBounds_toArray, List.set_cons_zero, List.set_cons_succ, i64_w, i32_w]
                rfl
              refine one_ (i := 4) (N := some 14) #[true, true, true, true, true, false, false, false, false, false, false, false, false, false, false, false, false, false, false, false, false, false, false, false] rfl rfl (one_of HT_.out (by kernel_rfl)) (by decide) (fun K hK => ?_)
              refine goes_ Try.func93 (by kernel_rfl) rfl #[.agg #[.int .i64 ((rd_T80 l0 x3_1).f0), .string ((rd_T80 l0 x3_1).f1), .bool ((rd_T80 l0 x3_1).f2)]] (by rfl) rfl rfl (by (try simp only [List.map_toArray, List.map_cons, List.map_nil]); first | done | rfl | (simp only [List.length_drop, List.length_take]; rfl)) ?_
              with_reducible refine (ambryref13_right.calls ((rd_T80 l0 x3_1).f0) ((rd_T80 l0 x3_1).f1) ((rd_T80 l0 x3_1).f2) true _ A4.out).mono ?_
              rintro e w16 ⟨rfl, hb⟩
              refine ⟨_, rfl, ?_⟩
              have n0_ := Aside0.mk (below_step (by repeat (first | (with_reducible first | exact HB.out | apply below_alloc | apply pw_below_drewN | apply below_drew1) | exact HB.out)) hb)
              clear HB
              have HB := n0_
              clear n0_
              (try clear hb)
              (try clear hb2)
              (try clear hk)
              (try clear hi)
              refine hK.out _ _ ⟨((HB.out.cell (World.block_lt_of_cell? w _ hw376_0)).trans hw376_0), ((HB.out.cell (World.block_lt_of_cell? w _ hw376_1)).trans hw376_1), ((HB.out.cell (World.block_lt_of_cell? w _ hw376_2)).trans hw376_2)⟩ (fun hHeld => ?_)
              clear hK K
              refine norm_ (a' := ?_) ?_ ?_
              rotate_left
              · show Act.put _ (some 14) _ = _
                simp only [Act.put, List.setIfInBounds_toArray, List.set_cons_zero, List.set_cons_succ, i64_w, i32_w]
                rfl
              refine pure_ (i := 5) (N := some 15) (v := ?_) (a' := ?_) #[true, true, true, true, true, true, false, false, false, false, false, false, false, false, false, false, false, false, false, false, false, false, false, false] rfl rfl (any_of HT_.out (by kernel_rfl)) (fun _ _ _ h => h) (Or.inl ⟨by rfl, ?_⟩) ?_ ?_
              rotate_left
              · intro w'
                go_simp
                with_reducible rfl
              rotate_left
              · simp only [Act.put, List.setIfInBounds_toArray, List.set_cons_zero, List.set_cons_succ, i64_w, i32_w]
                rfl
              refine pure_ (i := 6) (N := some 16) (v := ?_) (a' := ?_) #[true, true, true, true, true, true, true, false, false, false, false, false, false, false, false, false, false, false, false, false, false, false, false, false] rfl rfl (any_of HT_.out (by kernel_rfl)) (fun _ _ _ h => h) (Or.inl ⟨by rfl, ?_⟩) ?_ ?_
              rotate_left
              · intro w'
                go_simp
                with_reducible rfl
              rotate_left
              · simp only [Act.put, List.setIfInBounds_toArray, List.set_cons_zero, List.set_cons_succ, i64_w, i32_w]
                rfl
              refine pure_ (i := 7) (N := some 17) (v := ?_) (a' := ?_) #[true, true, true, true, true, true, true, true, false, false, false, false, false, false, false, false, false, false, false, false, false, false, false, false] rfl rfl (any_of HT_.out (by kernel_rfl)) (fun _ _ _ h => h) (Or.inl ⟨by rfl, ?_⟩) ?_ ?_
              rotate_left
              · intro w'
                go_simp
                with_reducible rfl
              rotate_left
              · simp only [Act.put, List.setIfInBounds_toArray, List.set_cons_zero, List.set_cons_succ, i64_w, i32_w]
                rfl
              refine pure_ (i := 8) (N := some 18) (v := ?_) (a' := ?_) #[true, true, true, true, true, true, true, true, true, false, false, false, false, false, false, false, false, false, false, false, false, false, false, false] rfl rfl (any_of HT_.out (by kernel_rfl)) (fun _ _ _ h => h) (Or.inl ⟨by rfl, ?_⟩) ?_ ?_
              rotate_left
              · intro w'
                go_simp
                with_reducible rfl
              rotate_left
              · simp only [Act.put, List.setIfInBounds_toArray, List.set_cons_zero, List.set_cons_succ, i64_w, i32_w]
                rfl
              refine pure_ (i := 9) (N := some 19) (v := ?_) (a' := ?_) #[true, true, true, true, true, true, true, true, true, true, false, false, false, false, false, false, false, false, false, false, false, false, false, false] rfl rfl (any_of HT_.out (by kernel_rfl)) (fun _ _ _ h => h) (Or.inl ⟨by rfl, ?_⟩) ?_ ?_
              rotate_left
              · intro w'
                go_simp
                with_reducible rfl
              rotate_left
              · simp only [Act.put, List.setIfInBounds_toArray, List.set_cons_zero, List.set_cons_succ, i64_w, i32_w]
                rfl
              refine pure_ (i := 10) (N := some 20) (v := undef) (a' := ?_) #[true, true, true, true, true, true, true, true, true, true, true, false, false, false, false, false, false, false, false, false, false, false, false, false] rfl rfl (any_of HT_.out (by kernel_rfl)) (fun _ _ _ h => h) (Or.inr ⟨by rfl, rfl⟩) ?_ ?_
              rotate_left
              · simp only [Act.put, List.setIfInBounds_toArray, List.set_cons_zero, List.set_cons_succ, i64_w, i32_w]
                rfl
              refine pure_ (i := 11) (N := some 21) (v := undef) (a' := ?_) #[true, true, true, true, true, true, true, true, true, true, true, true, false, false, false, false, false, false, false, false, false, false, false, false] rfl rfl (any_of HT_.out (by kernel_rfl)) (fun _ _ _ h => h) (Or.inr ⟨by rfl, rfl⟩) ?_ ?_
              rotate_left
              · simp only [Act.put, List.setIfInBounds_toArray, List.set_cons_zero, List.set_cons_succ, i64_w, i32_w]
                rfl
              refine pure_ (i := 12) (N := some 22) (v := undef) (a' := ?_) #[true, true, true, true, true, true, true, true, true, true, true, true, true, false, false, false, false, false, false, false, false, false, false, false] rfl rfl (any_of HT_.out (by kernel_rfl)) (fun _ _ _ h => h) (Or.inr ⟨by rfl, rfl⟩) ?_ ?_
              rotate_left
              · simp only [Act.put, List.setIfInBounds_toArray, List.set_cons_zero, List.set_cons_succ, i64_w, i32_w]
                rfl
              refine pure_ (i := 13) (N := some 23) (v := undef) (a' := ?_) #[true, true, true, true, true, true, true, true, true, true, true, true, true, true, false, false, false, false, false, false, false, false, false, false] rfl rfl (any_of HT_.out (by kernel_rfl)) (fun _ _ _ h => h) (Or.inr ⟨by rfl, rfl⟩) ?_ ?_
              rotate_left
              · simp only [Act.put, List.setIfInBounds_toArray, List.set_cons_zero, List.set_cons_succ, i64_w, i32_w]
                rfl
              refine pure_ (i := 14) (N := some 24) (v := undef) (a' := ?_) #[true, true, true, true, true, true, true, true, true, true, true, true, true, true, true, false, false, false, false, false, false, false, false, false] rfl rfl (any_of HT_.out (by kernel_rfl)) (fun _ _ _ h => h) (Or.inr ⟨by rfl, rfl⟩) ?_ ?_
              rotate_left
              · simp only [Act.put, List.setIfInBounds_toArray, List.set_cons_zero, List.set_cons_succ, i64_w, i32_w]
                rfl
              refine pure_ (i := 15) (N := some 25) (v := undef) (a' := ?_) #[true, true, true, true, true, true, true, true, true, true, true, true, true, true, true, true, false, false, false, false, false, false, false, false] rfl rfl (any_of HT_.out (by kernel_rfl)) (fun _ _ _ h => h) (Or.inr ⟨by rfl, rfl⟩) ?_ ?_
              rotate_left
              · simp only [Act.put, List.setIfInBounds_toArray, List.set_cons_zero, List.set_cons_succ, i64_w, i32_w]
                rfl
              refine pure_ (i := 16) (N := some 26) (v := undef) (a' := ?_) #[true, true, true, true, true, true, true, true, true, true, true, true, true, true, true, true, true, false, false, false, false, false, false, false] rfl rfl (any_of HT_.out (by kernel_rfl)) (fun _ _ _ h => h) (Or.inr ⟨by rfl, rfl⟩) ?_ ?_
              rotate_left
              · simp only [Act.put, List.setIfInBounds_toArray, List.set_cons_zero, List.set_cons_succ, i64_w, i32_w]
                rfl
              refine pure_ (i := 17) (N := some 27) (v := undef) (a' := ?_) #[true, true, true, true, true, true, true, true, true, true, true, true, true, true, true, true, true, true, false, false, false, false, false, false] rfl rfl (any_of HT_.out (by kernel_rfl)) (fun _ _ _ h => h) (Or.inr ⟨by rfl, rfl⟩) ?_ ?_
              rotate_left
              · simp only [Act.put, List.setIfInBounds_toArray, List.set_cons_zero, List.set_cons_succ, i64_w, i32_w]
                rfl
              refine pure_ (i := 18) (N := some 28) (v := undef) (a' := ?_) #[true, true, true, true, true, true, true, true, true, true, true, true, true, true, true, true, true, true, true, false, false, false, false, false] rfl rfl (any_of HT_.out (by kernel_rfl)) (fun _ _ _ h => h) (Or.inr ⟨by rfl, rfl⟩) ?_ ?_
              rotate_left
              · simp only [Act.put, List.setIfInBounds_toArray, List.set_cons_zero, List.set_cons_succ, i64_w, i32_w]
                rfl
              refine pure_ (i := 19) (N := some 29) (v := undef) (a' := ?_) #[true, true, true, true, true, true, true, true, true, true, true, true, true, true, true, true, true, true, true, true, false, false, false, false] rfl rfl (any_of HT_.out (by kernel_rfl)) (fun _ _ _ h => h) (Or.inr ⟨by rfl, rfl⟩) ?_ ?_
              rotate_left
              · simp only [Act.put, List.setIfInBounds_toArray, List.set_cons_zero, List.set_cons_succ, i64_w, i32_w]
                rfl
              refine pure_ (i := 20) (N := some 30) (v := undef) (a' := ?_) #[true, true, true, true, true, true, true, true, true, true, true, true, true, true, true, true, true, true, true, true, true, false, false, false] rfl rfl (any_of HT_.out (by kernel_rfl)) (fun _ _ _ h => h) (Or.inr ⟨by rfl, rfl⟩) ?_ ?_
              rotate_left
              · simp only [Act.put, List.setIfInBounds_toArray, List.set_cons_zero, List.set_cons_succ, i64_w, i32_w]
                rfl
              refine pure_ (i := 21) (N := some 31) (v := undef) (a' := ?_) #[true, true, true, true, true, true, true, true, true, true, true, true, true, true, true, true, true, true, true, true, true, true, false, false] rfl rfl (any_of HT_.out (by kernel_rfl)) (fun _ _ _ h => h) (Or.inr ⟨by rfl, rfl⟩) ?_ ?_
              rotate_left
              · simp only [Act.put, List.setIfInBounds_toArray, List.set_cons_zero, List.set_cons_succ, i64_w, i32_w]
                rfl
              refine pure_ (i := 22) (N := some 32) (v := ?_) (a' := ?_) #[true, true, true, true, true, true, true, true, true, true, true, true, true, true, true, true, true, true, true, true, true, true, true, false] rfl rfl (any_of HT_.out (by kernel_rfl)) (fun _ _ _ h => h) (Or.inl ⟨by rfl, ?_⟩) ?_ ?_
              rotate_left
              · intro w'
                go_simp
                with_reducible rfl
              rotate_left
              · simp only [Act.put, List.setIfInBounds_toArray, List.set_cons_zero, List.set_cons_succ, i64_w, i32_w]
                rfl
              refine pure_ (i := 23) (N := some 33) (v := ?_) (a' := ?_) #[true, true, true, true, true, true, true, true, true, true, true, true, true, true, true, true, true, true, true, true, true, true, true, true] rfl rfl (any_of HT_.out (by kernel_rfl)) (fun _ _ _ h => h) (Or.inl ⟨by rfl, ?_⟩) ?_ ?_
              rotate_left
              · intro w'
                go_simp
                with_reducible rfl
              rotate_left
              · simp only [Act.put, List.setIfInBounds_toArray, List.set_cons_zero, List.set_cons_succ, i64_w, i32_w]
                rfl
              refine done_ (done_of HT_.out (by kernel_rfl)) ?_
              try go_wp2
              go_roundg k1
              case measure => have := HK1.out; omega
              case rel => exact ⟨(wrap64 (x3_1 + 1)), (by first | rfl | (simp; done) | (simp [*]; done)), H', ⟨by have := HK1.out; omega⟩, ⟨by repeat (first | (with_reducible first | exact HB.out | apply below_alloc | apply pw_below_drewN | apply below_drew1) | exact HB.out)⟩⟩
          · replace c5 := Bool.eq_false_iff.mpr c5
            subst c5
            have H1 : (some false) = some r := by rw [if_neg (show ¬ (false = true) by decide)] at H; exact H
            clear H
            have H := H1
            clear H1
            obtain rfl := Option.some.inj H
            try go_wp2
            have n0_ := Aside0.mk (below_drew1 HB.out)
            clear HB
            have HB := n0_
            clear n0_
            have p376 : 0 ≤ (x3_1 : Int) := of_decide_eq_true (by first | (with_reducible assumption) | assumption)
            have q376 : x3_1 < (l0.length : Int) := of_decide_eq_true (by first | (with_reducible assumption) | assumption)
            obtain ⟨ad376, e376, hx376_0, hx376_1, hx376_2⟩ := at_T80 HR0.out x3_1 p376 q376
            have hw376_2 := hx376_2
            have hw376_1 := hx376_1
            have hw376_0 := hx376_0
            cases e376
            replace hx376_0 := (HB.out.cell (World.block_lt_of_cell? w _ hx376_0)).trans hx376_0
            replace hx376_1 := (HB.out.cell (World.block_lt_of_cell? w _ hx376_1)).trans hx376_1
            replace hx376_2 := (HB.out.cell (World.block_lt_of_cell? w _ hx376_2)).trans hx376_2
            replace p376 := eq_true p376
            replace q376 := eq_true q376
            refine start_ (n := 24) (S := fun w' => w'.cell? (ad376.add ((x3_1).toNat * 3)) = some (.int .i64 ((rd_T80 l0 x3_1).f0)) ∧ w'.cell? ⟨(ad376.add ((x3_1).toNat * 3)).block, (ad376.add ((x3_1).toNat * 3)).off + 1, none⟩ = some (.string ((rd_T80 l0 x3_1).f1)) ∧ w'.cell? ⟨(ad376.add ((x3_1).toNat * 3)).block, (ad376.add ((x3_1).toNat * 3)).off + 2, none⟩ = some (.bool ((rd_T80 l0 x3_1).f2))) (ds := []) #[false, false, false, false, false, false, false, false, false, false, false, false, false, false, false, false, false, false, false, false, false, false, false, false] (by kernel_rfl) rfl rfl ⟨((HB.out.cell (World.block_lt_of_cell? w _ hw376_0)).trans hw376_0), ((HB.out.cell (World.block_lt_of_cell? w _ hw376_1)).trans hw376_1), ((HB.out.cell (World.block_lt_of_cell? w _ hw376_2)).trans hw376_2)⟩ (fun hHeld => ?_); refine with_tabW ambryref13_Right.tab4 ambryref13_Right.bits4 (fun HT_ HW_ => ?_)
            generalize wr.drew = w17 at HB hx376_0 hx376_1 hx376_2 hHeld ⊢
            refine pure_ (i := 0) (N := some 10) (v := ?_) (a' := ?_) #[true, false, false, false, false, false, false, false, false, false, false, false, false, false, false, false, false, false, false, false, false, false, false, false] rfl rfl (any_of HT_.out (by kernel_rfl)) (fun _ _ _ h => h) (Or.inl ⟨by rfl, ?_⟩) ?_ ?_
            rotate_left
            · intro w'
              go_simp
              with_reducible rfl
            rotate_left
            · simp only [Act.put, List.setIfInBounds_toArray, List.set_cons_zero, List.set_cons_succ, i64_w, i32_w]
              rfl
            refine pure_ (i := 1) (N := some 11) (v := ?_) (a' := ?_) #[true, true, false, false, false, false, false, false, false, false, false, false, false, false, false, false, false, false, false, false, false, false, false, false] rfl rfl (any_of HT_.out (by kernel_rfl)) (fun _ _ _ h => h) (Or.inl ⟨by rfl, ?_⟩) ?_ ?_
            rotate_left
            · intro w'
              go_simp
              with_reducible rfl
            rotate_left
            · simp only [Act.put, List.setIfInBounds_toArray, List.set_cons_zero, List.set_cons_succ, i64_w, i32_w]
              rfl
            refine pure_ (i := 2) (N := some 12) (v := ?_) (a' := ?_) #[true, true, true, false, false, false, false, false, false, false, false, false, false, false, false, false, false, false, false, false, false, false, false, false] rfl rfl (any_of HT_.out (by kernel_rfl)) (fun _ _ _ h => h) (Or.inl ⟨by rfl, ?_⟩) ?_ ?_
            rotate_left
            · intro w'
              go_simp
              with_reducible rfl
            rotate_left
            · simp only [Act.put, List.setIfInBounds_toArray, List.set_cons_zero, List.set_cons_succ, i64_w, i32_w]
              rfl
            refine take_ (i := 3) (N := some 13) (v := ?_) (a' := ?_) #[true, true, true, true, false, false, false, false, false, false, false, false, false, false, false, false, false, false, false, false, false, false, false, false] rfl rfl (take_ofW HT_.out HW_.out (by kernel_rfl)) (fun _ _ _ h => h) (Or.inl ⟨by rfl, ?_⟩) hHeld ?_ ?_
            rotate_left
            · rintro w' ⟨s0, s1, s2⟩
              go_simp
              with_reducible rfl
            rotate_left
            · simp only [Act.put, List.setIfInBounds_toArray, List.set_cons_zero, List.set_cons_succ, i64_w, i32_w]
              rfl
            refine one_ (i := 4) (N := some 14) #[true, true, true, true, true, false, false, false, false, false, false, false, false, false, false, false, false, false, false, false, false, false, false, false] rfl rfl (one_of HT_.out (by kernel_rfl)) (by decide) (fun K hK => ?_)
            refine goes_ Try.func93 (by kernel_rfl) rfl #[.agg #[.int .i64 ((rd_T80 l0 x3_1).f0), .string ((rd_T80 l0 x3_1).f1), .bool ((rd_T80 l0 x3_1).f2)]] (by rfl) rfl rfl (by (try simp only [List.map_toArray, List.map_cons, List.map_nil]); first | done | rfl | (simp only [List.length_drop, List.length_take]; rfl)) ?_
            with_reducible refine (ambryref13_right.calls ((rd_T80 l0 x3_1).f0) ((rd_T80 l0 x3_1).f1) ((rd_T80 l0 x3_1).f2) false _ A4.out).mono ?_
            rintro e w18 ⟨rfl, hb⟩
            refine ⟨_, rfl, ?_⟩
            have n0_ := Aside0.mk (below_step (by repeat (first | (with_reducible first | exact HB.out | apply below_alloc | apply pw_below_drewN | apply below_drew1) | exact HB.out)) hb)
            clear HB
            have HB := n0_
            clear n0_
            (try clear hb)
            (try clear hb2)
            (try clear hk)
            (try clear hi)
            refine hK.out _ _ ⟨((HB.out.cell (World.block_lt_of_cell? w _ hw376_0)).trans hw376_0), ((HB.out.cell (World.block_lt_of_cell? w _ hw376_1)).trans hw376_1), ((HB.out.cell (World.block_lt_of_cell? w _ hw376_2)).trans hw376_2)⟩ (fun hHeld => ?_)
            clear hK K
            refine norm_ (a' := ?_) ?_ ?_
            rotate_left
            · show Act.put _ (some 14) _ = _
              simp only [Act.put, List.setIfInBounds_toArray, List.set_cons_zero, List.set_cons_succ, i64_w, i32_w]
              rfl
            refine pure_ (i := 5) (N := some 15) (v := ?_) (a' := ?_) #[true, true, true, true, true, true, false, false, false, false, false, false, false, false, false, false, false, false, false, false, false, false, false, false] rfl rfl (any_of HT_.out (by kernel_rfl)) (fun _ _ _ h => h) (Or.inl ⟨by rfl, ?_⟩) ?_ ?_
            rotate_left
            · intro w'
              go_simp
              with_reducible rfl
            rotate_left
            · simp only [Act.put, List.setIfInBounds_toArray, List.set_cons_zero, List.set_cons_succ, i64_w, i32_w]
              rfl
            refine pure_ (i := 6) (N := some 16) (v := ?_) (a' := ?_) #[true, true, true, true, true, true, true, false, false, false, false, false, false, false, false, false, false, false, false, false, false, false, false, false] rfl rfl (any_of HT_.out (by kernel_rfl)) (fun _ _ _ h => h) (Or.inl ⟨by rfl, ?_⟩) ?_ ?_
            rotate_left
            · intro w'
              go_simp
              with_reducible rfl
            rotate_left
            · simp only [Act.put, List.setIfInBounds_toArray, List.set_cons_zero, List.set_cons_succ, i64_w, i32_w]
              rfl
            refine pure_ (i := 7) (N := some 17) (v := undef) (a' := ?_) #[true, true, true, true, true, true, true, true, false, false, false, false, false, false, false, false, false, false, false, false, false, false, false, false] rfl rfl (any_of HT_.out (by kernel_rfl)) (fun _ _ _ h => h) (Or.inr ⟨by rfl, rfl⟩) ?_ ?_
            rotate_left
            · simp only [Act.put, List.setIfInBounds_toArray, List.set_cons_zero, List.set_cons_succ, i64_w, i32_w]
              rfl
            refine pure_ (i := 8) (N := some 18) (v := undef) (a' := ?_) #[true, true, true, true, true, true, true, true, true, false, false, false, false, false, false, false, false, false, false, false, false, false, false, false] rfl rfl (any_of HT_.out (by kernel_rfl)) (fun _ _ _ h => h) (Or.inr ⟨by rfl, rfl⟩) ?_ ?_
            rotate_left
            · simp only [Act.put, List.setIfInBounds_toArray, List.set_cons_zero, List.set_cons_succ, i64_w, i32_w]
              rfl
            refine pure_ (i := 9) (N := some 19) (v := undef) (a' := ?_) #[true, true, true, true, true, true, true, true, true, true, false, false, false, false, false, false, false, false, false, false, false, false, false, false] rfl rfl (any_of HT_.out (by kernel_rfl)) (fun _ _ _ h => h) (Or.inr ⟨by rfl, rfl⟩) ?_ ?_
            rotate_left
            · simp only [Act.put, List.setIfInBounds_toArray, List.set_cons_zero, List.set_cons_succ, i64_w, i32_w]
              rfl
            refine pure_ (i := 10) (N := some 20) (v := undef) (a' := ?_) #[true, true, true, true, true, true, true, true, true, true, true, false, false, false, false, false, false, false, false, false, false, false, false, false] rfl rfl (any_of HT_.out (by kernel_rfl)) (fun _ _ _ h => h) (Or.inr ⟨by rfl, rfl⟩) ?_ ?_
            rotate_left
            · simp only [Act.put, List.setIfInBounds_toArray, List.set_cons_zero, List.set_cons_succ, i64_w, i32_w]
              rfl
            refine pure_ (i := 11) (N := some 21) (v := undef) (a' := ?_) #[true, true, true, true, true, true, true, true, true, true, true, true, false, false, false, false, false, false, false, false, false, false, false, false] rfl rfl (any_of HT_.out (by kernel_rfl)) (fun _ _ _ h => h) (Or.inr ⟨by rfl, rfl⟩) ?_ ?_
            rotate_left
            · simp only [Act.put, List.setIfInBounds_toArray, List.set_cons_zero, List.set_cons_succ, i64_w, i32_w]
              rfl
            refine pure_ (i := 12) (N := some 22) (v := undef) (a' := ?_) #[true, true, true, true, true, true, true, true, true, true, true, true, true, false, false, false, false, false, false, false, false, false, false, false] rfl rfl (any_of HT_.out (by kernel_rfl)) (fun _ _ _ h => h) (Or.inr ⟨by rfl, rfl⟩) ?_ ?_
            rotate_left
            · simp only [Act.put, List.setIfInBounds_toArray, List.set_cons_zero, List.set_cons_succ, i64_w, i32_w]
              rfl
            refine pure_ (i := 13) (N := some 23) (v := undef) (a' := ?_) #[true, true, true, true, true, true, true, true, true, true, true, true, true, true, false, false, false, false, false, false, false, false, false, false] rfl rfl (any_of HT_.out (by kernel_rfl)) (fun _ _ _ h => h) (Or.inr ⟨by rfl, rfl⟩) ?_ ?_
            rotate_left
            · simp only [Act.put, List.setIfInBounds_toArray, List.set_cons_zero, List.set_cons_succ, i64_w, i32_w]
              rfl
            refine pure_ (i := 14) (N := some 24) (v := undef) (a' := ?_) #[true, true, true, true, true, true, true, true, true, true, true, true, true, true, true, false, false, false, false, false, false, false, false, false] rfl rfl (any_of HT_.out (by kernel_rfl)) (fun _ _ _ h => h) (Or.inr ⟨by rfl, rfl⟩) ?_ ?_
            rotate_left
            · simp only [Act.put, List.setIfInBounds_toArray, List.set_cons_zero, List.set_cons_succ, i64_w, i32_w]
              rfl
            refine pure_ (i := 15) (N := some 25) (v := undef) (a' := ?_) #[true, true, true, true, true, true, true, true, true, true, true, true, true, true, true, true, false, false, false, false, false, false, false, false] rfl rfl (any_of HT_.out (by kernel_rfl)) (fun _ _ _ h => h) (Or.inr ⟨by rfl, rfl⟩) ?_ ?_
            rotate_left
            · simp only [Act.put, List.setIfInBounds_toArray, List.set_cons_zero, List.set_cons_succ, i64_w, i32_w]
              rfl
            refine pure_ (i := 16) (N := some 26) (v := undef) (a' := ?_) #[true, true, true, true, true, true, true, true, true, true, true, true, true, true, true, true, true, false, false, false, false, false, false, false] rfl rfl (any_of HT_.out (by kernel_rfl)) (fun _ _ _ h => h) (Or.inr ⟨by rfl, rfl⟩) ?_ ?_
            rotate_left
            · simp only [Act.put, List.setIfInBounds_toArray, List.set_cons_zero, List.set_cons_succ, i64_w, i32_w]
              rfl
            refine pure_ (i := 17) (N := some 27) (v := undef) (a' := ?_) #[true, true, true, true, true, true, true, true, true, true, true, true, true, true, true, true, true, true, false, false, false, false, false, false] rfl rfl (any_of HT_.out (by kernel_rfl)) (fun _ _ _ h => h) (Or.inr ⟨by rfl, rfl⟩) ?_ ?_
            rotate_left
            · simp only [Act.put, List.setIfInBounds_toArray, List.set_cons_zero, List.set_cons_succ, i64_w, i32_w]
              rfl
            refine pure_ (i := 18) (N := some 28) (v := undef) (a' := ?_) #[true, true, true, true, true, true, true, true, true, true, true, true, true, true, true, true, true, true, true, false, false, false, false, false] rfl rfl (any_of HT_.out (by kernel_rfl)) (fun _ _ _ h => h) (Or.inr ⟨by rfl, rfl⟩) ?_ ?_
            rotate_left
            · simp only [Act.put, List.setIfInBounds_toArray, List.set_cons_zero, List.set_cons_succ, i64_w, i32_w]
              rfl
            refine pure_ (i := 19) (N := some 29) (v := undef) (a' := ?_) #[true, true, true, true, true, true, true, true, true, true, true, true, true, true, true, true, true, true, true, true, false, false, false, false] rfl rfl (any_of HT_.out (by kernel_rfl)) (fun _ _ _ h => h) (Or.inr ⟨by rfl, rfl⟩) ?_ ?_
            rotate_left
            · simp only [Act.put, List.setIfInBounds_toArray, List.set_cons_zero, List.set_cons_succ, i64_w, i32_w]
              rfl
            refine pure_ (i := 20) (N := some 30) (v := undef) (a' := ?_) #[true, true, true, true, true, true, true, true, true, true, true, true, true, true, true, true, true, true, true, true, true, false, false, false] rfl rfl (any_of HT_.out (by kernel_rfl)) (fun _ _ _ h => h) (Or.inr ⟨by rfl, rfl⟩) ?_ ?_
            rotate_left
            · simp only [Act.put, List.setIfInBounds_toArray, List.set_cons_zero, List.set_cons_succ, i64_w, i32_w]
              rfl
            refine pure_ (i := 21) (N := some 31) (v := undef) (a' := ?_) #[true, true, true, true, true, true, true, true, true, true, true, true, true, true, true, true, true, true, true, true, true, true, false, false] rfl rfl (any_of HT_.out (by kernel_rfl)) (fun _ _ _ h => h) (Or.inr ⟨by rfl, rfl⟩) ?_ ?_
            rotate_left
            · simp only [Act.put, List.setIfInBounds_toArray, List.set_cons_zero, List.set_cons_succ, i64_w, i32_w]
              rfl
            refine pure_ (i := 22) (N := some 32) (v := undef) (a' := ?_) #[true, true, true, true, true, true, true, true, true, true, true, true, true, true, true, true, true, true, true, true, true, true, true, false] rfl rfl (any_of HT_.out (by kernel_rfl)) (fun _ _ _ h => h) (Or.inr ⟨by rfl, rfl⟩) ?_ ?_
            rotate_left
            · simp only [Act.put, List.setIfInBounds_toArray, List.set_cons_zero, List.set_cons_succ, i64_w, i32_w]
              rfl
            refine pure_ (i := 23) (N := some 33) (v := ?_) (a' := ?_) #[true, true, true, true, true, true, true, true, true, true, true, true, true, true, true, true, true, true, true, true, true, true, true, true] rfl rfl (any_of HT_.out (by kernel_rfl)) (fun _ _ _ h => h) (Or.inl ⟨by rfl, ?_⟩) ?_ ?_
            rotate_left
            · intro w'
              go_simp
              with_reducible rfl
            rotate_left
            · simp only [Act.put, List.setIfInBounds_toArray, List.set_cons_zero, List.set_cons_succ, i64_w, i32_w]
              rfl
            refine done_ (done_of HT_.out (by kernel_rfl)) ?_
            try go_wp2
            go_ret
            exact ⟨by first | rfl | (simp [errW_none, errW_some] <;> rfl) | (simp [*, errW_none, errW_some] <;> rfl), by repeat (first | (with_reducible first | exact HB.out | apply below_alloc | apply pw_below_drewN | apply below_drew1) | exact HB.out)⟩
        · rw [if_neg c3] at H
          exact absurd H (by simp)
      · rw [if_neg c2] at H
        have c2b0 : decide (x3_1 < (l0.length : Int)) = false := decide_eq_false c2
        clear c2
        obtain rfl := Option.some.inj H
        go_wp2
        go_ret
        exact ⟨by first | rfl | (simp [errW_none, errW_some] <;> rfl) | (simp [*, errW_none, errW_some] <;> rfl), by repeat (first | (with_reducible first | exact HB.out | apply below_alloc | apply pw_below_drewN | apply below_drew1) | exact HB.out)⟩
end Go.Proofs.Ytehcmedeeaoebaa.PB
end
