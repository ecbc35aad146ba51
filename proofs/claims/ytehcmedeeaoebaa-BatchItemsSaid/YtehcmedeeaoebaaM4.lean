import Derived.Test.YtehcmedeeaoebaaM3
import Derived.WalkSpells
import Derived.WalkLawsBesides
import Derived.BigQuiet
import Derived.Test.YtehcmedeeaoebaaM1
import Derived.Shelf.SlSortCmp.NoneTotal
import Derived.ChangeArms
import Derived.ChangeSame
import Derived.Deep.Strs
import Derived.Deep.Slices
import Derived.Lib.SmallJoins
import Derived.SizedLaws
import Derived.Test.YtehcmedeeaoebaaM0
section
namespace Go.Proofs.Ytehcmedeeaoebaa.PB
open Go.RowKit Go.Proofs.YtehcmedeeaoebaaW.PrintWords Go.Proofs.YtehcmedeeaoebaaW.PrintLast Go.Proofs.YtehcmedeeaoebaaW.PrintMore
set_option linter.unusedVariables false
set_option linter.unusedSimpArgs false
def versionP (p : S69) : Option (ByteArray × S80) :=
  if p.f0.size < 8 ∨ p.f1.size = 0 then none else if 1 < bt p.f1 0 then none else
    if wrap64 (be (bytesOf (p.f0.extract ((p.f0.size : Int) - 8).toNat p.f0.size))) < 0 ∨ 1152921504606846976 ≤ wrap64 (be (bytesOf (p.f0.extract ((p.f0.size : Int) - 8).toNat p.f0.size))) then none
    else some (p.f0.extract 0 ((p.f0.size : Int) - 8).toNat, ⟨1152921504606846976 - wrap64 (be (bytesOf (p.f0.extract ((p.f0.size : Int) - 8).toNat p.f0.size))), p.f1.extract 1 p.f1.size, bt p.f1 0 == 0⟩)
theorem version_some.calls (p : S69) (key : ByteArray) (v : S80) (w : World) (hk : p.f0.size ≤ 140737488351232) (hv : p.f1.size ≤ 140737488351232) (h : versionP p = some (key, v)) :
    Calls Try.prog 59 #[.agg #[.string p.f0, .string p.f1]] w fun e w' => e = .returned (.tuple #[.string key, .agg #[.int .i64 v.f0, .string v.f1, .bool v.f2], .bool true]) ∧ Below w.heap.size w w' := by
  unfold versionP at h
  by_cases c1 : p.f0.size < 8 ∨ p.f1.size = 0
  · rw [if_pos c1] at h; cases h
  by_cases c2 : 1 < bt p.f1 0
  · rw [if_neg c1, if_pos c2] at h; cases h
  by_cases c3 : wrap64 (be (bytesOf (p.f0.extract ((p.f0.size : Int) - 8).toNat p.f0.size))) < 0 ∨ 1152921504606846976 ≤ wrap64 (be (bytesOf (p.f0.extract ((p.f0.size : Int) - 8).toNat p.f0.size)))
  · rw [if_neg c1, if_neg c2, if_pos c3] at h; cases h
  rw [if_neg c1, if_neg c2, if_neg c3] at h
  obtain ⟨rfl, rfl⟩ := Prod.mk.inj (Option.some.inj h)
  exact version_ok.calls p _ _ w hk hv (by omega) (by omega) (by omega) rfl (by rw [ByteArray.size_extract]; omega) rfl (by omega) (by omega)
theorem version_none.calls (p : S69) (w : World) (hk : p.f0.size ≤ 140737488351232) (hv : p.f1.size ≤ 140737488351232) (h : versionP p = none) :
    Calls Try.prog 59 #[.agg #[.string p.f0, .string p.f1]] w fun e w' => e = noVersion ∧ Below w.heap.size w w' := by
  unfold versionP at h
  by_cases c1 : p.f0.size < 8 ∨ p.f1.size = 0
  · exact version_short.calls p w hk hv (by omega)
  by_cases c2 : 1 < bt p.f1 0
  · exact version_short.calls p w hk hv (Or.inr (Or.inr ⟨by omega, c2⟩))
  by_cases c3 : wrap64 (be (bytesOf (p.f0.extract ((p.f0.size : Int) - 8).toNat p.f0.size))) < 0 ∨ 1152921504606846976 ≤ wrap64 (be (bytesOf (p.f0.extract ((p.f0.size : Int) - 8).toNat p.f0.size)))
  · exact version_time.calls p _ _ w hk hv (by omega) (by omega) (by omega) rfl (by rw [ByteArray.size_extract]; omega) rfl (by omega)
  · rw [if_neg c1, if_neg c2, if_neg c3] at h; cases h
def addP : List S67 → ByteArray → S80 → List S67
  | [], key, x => [⟨key, [x]⟩]
  | g :: r, key, x => if (g.f0.toList == key.toList) = true then ⟨key, g.f1 ++ [x]⟩ :: r else g :: addP r key x
def rowP : List S67 → ByteArray → List S80
  | [], _ => []
  | g :: r, key => if (g.f0.toList == key.toList) = true then g.f1 else rowP r key
def pairAt (l : List S69) (i : Nat) : S69 := l.getD i z69
def gatherL (l : List S69) : Nat → Nat → List S67 → Option (List S67)
  | 0, _, A => some A
  | n + 1, i, A => match versionP (pairAt l i) with
    | none => none
    | some (key, v) => if 0 < i ∧ ltS (pairAt l (i - 1)).f0 (pairAt l i).f0 = false then none else gatherL l n (i + 1) (addP A key v)
def itemsL (k : Nat) (A : List S67) : List ByteArray → List S67 → Option (List S67 × Int)
  | [], out => some (out, 0)
  | key :: r, out => (batch_may.f k key (rowP A key)).bind fun b => if b = true then itemsL k A r (out ++ [⟨key, rowP A key⟩]) else some ([], 4)
def fit47 (l : List S69) : Prop := l.length ≤ 1000000000 ∧ ∀ x ∈ l, x.f0.size ≤ 140737488351232 ∧ x.f1.size ≤ 140737488351232
instance (l : List S69) : Decidable (fit47 l) := by unfold fit47; infer_instance
def batch_Items.f (k : Nat) (l : List S69) : Option (List S67 × Int) :=
  if fit47 l then match gatherL l l.length 0 [] with
    | none => some ([], 4)
    | some A => itemsL k A (sortS (A.map (·.f0))) []
  else none
theorem info9 : (Try.prog.info? 9).map (fun i => (i.zero, i.size, i.bytes)) = some (some (.string ⟨#[]⟩), 1, 16) := by kernel_rfl
theorem itemsL_mono (k : Nat) (A : List S67) : ∀ r out, LeO (itemsL k A r out) (itemsL (k + 1) A r out)
  | [], _ => LeO.refl _
  | key :: r, out => by
    rw [itemsL, itemsL]
    exact LeO.bind (batch_may.mono _ _ _) fun _ => LeO.ite (itemsL_mono k A r _) (LeO.refl _)
theorem batch_Items.mono : ∀ a0 k, LeO (batch_Items.f k a0) (batch_Items.f (k + 1) a0) := by
  intro a0 k
  unfold batch_Items.f
  refine LeO.ite ?_ (LeO.refl _)
  cases gatherL a0 a0.length 0 [] with
  | none => exact LeO.refl _
  | some A => exact itemsL_mono _ _ _ _
def plainG (G : List G80) : List S67 := G.map fun g => ⟨g.k, g.vs⟩
theorem plain_put (G : List G80) (key : ByteArray) (v : Value) (x : S80) : plainG (putG G key v (rowG G key ++ [x])) = addP (plainG G) key x := by
  induction G with
  | nil => rfl
  | cons g G ih =>
    by_cases c : (g.k.toList == key.toList) = true
    · rw [rowG, if_pos c, putG, if_pos c]
      show _ = addP (⟨g.k, g.vs⟩ :: plainG G) key x
      rw [addP, if_pos c]; rfl
    · rw [rowG, if_neg c, putG, if_neg c]
      show ⟨g.k, g.vs⟩ :: plainG _ = addP (⟨g.k, g.vs⟩ :: plainG G) key x
      rw [addP, if_neg c, ih]
theorem plain_row (G : List G80) (key : ByteArray) : rowP (plainG G) key = rowG G key := by
  induction G with
  | nil => rfl
  | cons g G ih =>
    show rowP (⟨g.k, g.vs⟩ :: plainG G) key = _
    rw [rowP, rowG, ih]
theorem plain_keys (G : List G80) : (plainG G).map (·.f0) = G.map (·.k) := by unfold plainG; rw [List.map_map]; rfl
theorem keys_put (G : List G80) (key : ByteArray) (v : Value) (vs : List S80) : (putG G key v vs).map (·.k) = if hasG G key = true then G.map (·.k) else G.map (·.k) ++ [key] := by
  induction G with
  | nil => rfl
  | cons g G ih =>
    unfold hasG
    rw [putG, List.any_cons]
    by_cases c : (g.k.toList == key.toList) = true
    · rw [if_pos c, c, Bool.true_or, if_pos rfl, List.map_cons, List.map_cons]
      have : key = g.k := ByteArray.ext (Array.toList_inj.1 (by rw [← Lib.toList_data, ← Lib.toList_data]; exact (eq_of_beq c).symm))
      rw [this]
    · have cf : (g.k.toList == key.toList) = false := by simpa using c
      rw [if_neg c, cf, Bool.false_or, List.map_cons, ih]
      unfold hasG
      split <;> rfl
theorem rows_put (G : List G80) (key : ByteArray) (v : Value) (x : S80) : ∀ k, (rowG (putG G key v (rowG G key ++ [x])) k).length ≤ (rowG G k).length + 1 := by
  intro k
  rw [← plain_row (putG G key v (rowG G key ++ [x])), plain_put, ← plain_row G k]
  induction plainG G with
  | nil =>
    show (if (key.toList == k.toList) = true then [x] else []).length ≤ _
    split <;> simp [rowP]
  | cons g r ih =>
    rw [addP]
    by_cases c : (g.f0.toList == key.toList) = true
    · rw [if_pos c, rowP, rowP]
      by_cases d : (key.toList == k.toList) = true
      · rw [if_pos d, if_pos (by rw [eq_of_beq c]; exact d)]; simp
      · rw [if_neg d, if_neg (by rw [eq_of_beq c]; exact d)]; omega
    · rw [if_neg c, rowP, rowP]
      split
      · omega
      · exact ih
theorem putG_in {G : List G80} {key : ByteArray} {v : Value} {vs : List S80} {x : G80} (h : x ∈ putG G key v vs) : x = ⟨key, v, vs⟩ ∨ x ∈ G := by
  induction G with
  | nil => exact Or.inl (List.mem_singleton.1 h)
  | cons g G ih =>
    rw [putG] at h
    split at h
    · rcases List.mem_cons.1 h with h | h
      · exact Or.inl h
      · exact Or.inr (List.mem_cons_of_mem _ h)
    · rcases List.mem_cons.1 h with h | h
      · exact Or.inr (by rw [h]; exact List.mem_cons_self)
      · rcases ih h with h | h
        · exact Or.inl h
        · exact Or.inr (List.mem_cons_of_mem _ h)
theorem sortS_mem {xs : List ByteArray} {x : ByteArray} : x ∈ sortS xs ↔ x ∈ xs := by
  unfold sortS sortB
  rw [List.mem_map]
  constructor
  · rintro ⟨l, hl, rfl⟩
    obtain ⟨y, hy, rfl⟩ := List.mem_map.1 ((List.mergeSort_perm _ _).mem_iff.1 hl)
    exact hy
  · intro h
    exact ⟨x.data.toList, (List.mergeSort_perm _ _).mem_iff.2 (List.mem_map.2 ⟨x, h, rfl⟩), rfl⟩
theorem str_at {w : World} {A : Option Addr} {n : Nat} {xs : List ByteArray} (h : Kd.C Kd.string w A n xs) (i : Nat) (h1 : i < n) (h2 : i < xs.length) : ∃ ad, A = some ad ∧ w.cell? (ad.add i) = some (.string xs[i]) := by
  obtain ⟨ad, c, e, _, hK, hc⟩ := Kd.C_get h ⟨#[]⟩ (i : Int) (by omega) (by omega)
  have hK' : c = [.string (xs.getD (i : Int).toNat ⟨#[]⟩)] := hK
  subst hK'
  refine ⟨ad, e, ?_⟩
  have := hc 0 _ rfl
  rw [Int.toNat_natCast, List.getD_eq_getElem?_getD, List.getElem?_eq_getElem h2] at this
  simpa [Kd.string, Kd.scalar] using this
theorem keys_own {w : World} {base : Nat} {v : Value} {xs : List ByteArray} (h : Kd.R Kd.string 9 w base (fun _ => True) v xs) : w.ownsRow base 9 1 v xs.length (encs Value.string xs) := Kd.own_of_R h
theorem keys_of {w : World} {base : Nat} {v : Value} {xs : List ByteArray} (h : w.ownsRow base 9 1 v xs.length (encs Value.string xs)) : Kd.R Kd.string 9 w base (fun _ => True) v xs := Kd.R_of_own h (fun _ _ => trivial)
theorem keys_kept {w w' : World} {base : Nat} {v : Value} {xs : List ByteArray} {row : Option Nat} (h : Kd.R Kd.string 9 w base (fun _ => True) v xs) (hg : w.grownBy w' row) (hne : ∀ b, row = some b → ∀ cells, w.heap[b]? ≠ some (.cells cells 9 (0, 0))) : Kd.R Kd.string 9 w' base (fun _ => True) v xs := by
  refine Kd.R_mono (Kd.R_grown (ok := fun k => some k = v.ownBlock) (Kd.R_flat (fun hd => hd) h (fun k hk _ => hk.symm)) hg (fun k hk e => ?_)) (fun _ _ => trivial)
  obtain ⟨inner, ho⟩ := Kd.R_own h
  obtain ⟨cells, hc⟩ := own_typed ho k hk.symm
  exact hne k e.symm cells hc
theorem rdT69_at (l : List S69) (i : Nat) : rd_T69 l (i : Int) = pairAt l i := by simp [rd_T69, pairAt]
set_option maxHeartbeats 16000000 in
set_option maxRecDepth 100000 in
theorem batch_Items.calls (k : Nat) (A0 : Option Addr) (c0 : Nat) (l0 : List S69) (r1 : List S67) (r2 : Int) (w : World) (hr0 : Kd.C k69 w A0 l0.length l0) (hc0 : l0.length ≤ c0) (h : batch_Items.f k l0 = some (r1, r2)) :
    Calls Try.prog 30 #[.slice A0 l0.length c0] w fun e w' => ∃ v0_ : Value, e = .returned (.tuple #[v0_, .int .i64 r2]) ∧ Kd.R k67 67 w' w.heap.size (fun _ => True) v0_ r1 ∧ Below w.heap.size w w' := by
  unfold batch_Items.f at h
  by_cases hfit : fit47 l0
  case neg => rw [if_neg hfit] at h; cases h
  rw [if_pos hfit] at h
  have HFIT := Aside0.mk hfit
  have HC := Aside0.mk hr0
  have HH := Aside0.mk h
  have HB := Aside0.mk (Below.refl w.heap.size w)
  have hlen : (l0.length : Int) ≤ 1000000000 := by have := hfit.1; omega
  clear hr0 hc0 h hfit
  have hmm := @run_makeMap Try.prog
  go_enter Try.func30, Try.ntmps30
  go_wp2
  clear hmm
  go_loopg [5, 20] l0.length (fun gg s5 s20 wr => ∃ (i : Nat) (G : List G80), i ≤ l0.length ∧ l0.length - i ≤ gg ∧ s20 = .int .i64 i ∧ Aside0 (Below w.heap.size w wr) ∧ Aside0 (Grp wr w.heap.size w.heap.size i G) ∧ Aside0 (Kd.R Kd.string 9 wr w.heap.size (fun _ => True) s5 (G.map (·.k))) ∧ Aside0 ((∀ k, (rowG G k).length ≤ i) ∧ G.length ≤ i ∧ (∀ g ∈ G, g.k.size ≤ 9223372036854775807) ∧ gatherL l0 (l0.length - i) i (plainG G) = gatherL l0 l0.length 0 []))
  case atStart => exact ⟨0, [], Nat.zero_le _, by omega, rfl, ⟨below_alloc HB.out _⟩, ⟨grp_made w _⟩, ⟨Kd.R_nil _ _ _ _ _⟩, ⟨fun k => Nat.le_refl _, Nat.le_refl _, (fun g hg => by cases hg), rfl⟩⟩
  case round =>
    clear HB
    obtain ⟨i, G, hi, hgg, rfl, HB, HG, HK, HP⟩ := hrel
    have HIL := Aside0.mk (show i < 9223372036854775807 by omega)
    by_cases hil : i < l0.length
    · have hiz : (i : Int) < (l0.length : Int) := by omega
      have hiw : (i : Int) ≤ 1000000000 := by omega
      obtain ⟨n, hn⟩ : ∃ n, l0.length - i = n + 1 := ⟨l0.length - i - 1, by omega⟩
      have HN := Aside0.mk hn
      have hpl := HP.out.2.2.2
      rw [hn, gatherL] at hpl
      have hmem : pairAt l0 i ∈ l0 := by unfold pairAt; rw [List.getD_eq_getElem?_getD, List.getElem?_eq_getElem hil]; exact List.getElem_mem hil
      have hsz := HFIT.out.2 _ hmem
      obtain ⟨ad, e, g0, g1⟩ := at_T69 HC.out (i : Int) (by omega) hiz
      cases e
      rw [rdT69_at] at g0 g1
      simp only [Int.toNat_natCast] at g0 g1
      obtain ⟨pk, pv, hx⟩ : ∃ pk pv, pairAt l0 i = ⟨pk, pv⟩ := ⟨_, _, rfl⟩
      rw [hx] at g0 g1 hsz hpl
      simp only at g0 g1 hsz hpl
      have h0 := (HB.out.cell (World.block_lt_of_cell? w _ g0)).trans g0
      have h1 := (HB.out.cell (World.block_lt_of_cell? w _ g1)).trans g1
      have HS0 := Aside0.mk hsz.1
      have HS1 := Aside0.mk hsz.2
      clear g0 g1 hsz hmem hn
      rcases hver : versionP ⟨pk, pv⟩ with _ | ⟨key, va, vb, vc⟩
      · have HVN := Aside0.mk hver
        have HF : Aside0 ([] = r1 ∧ (4 : Int) = r2) := ⟨by
          rw [hver] at hpl
          have e := HH.out
          rw [← hpl] at e
          exact ⟨(Prod.mk.inj (Option.some.inj e)).1, (Prod.mk.inj (Option.some.inj e)).2⟩⟩
        clear hver hpl hx
        go_wp2_with (first | ((with_reducible refine gate_dst (N := 7) rfl ?_); refine box_event ?hg (N := 7) ?hd (cs := #[.string ⟨#[]⟩, .string ⟨#[]⟩]) (t := 69) ?hr ?_; (case hd => rfl); (case hg => rfl); (case hr => first | (go_simp; done) | (go_simp; rfl)); intro g7 hg w2 hbox hb; have G7 := Aside0.mk (show w.heap.size ≤ g7 from (by rw [hg]; exact HB.out.size)); have B7 := Aside0.mk hbox; clear hbox hg; have r0_ := Aside0.mk (below_then HB.out HB.out.size hb); have r1_ := Aside0.mk (HG.out.below hb); have r2_ := Aside0.mk (Kd.R_below HK.out hb); clear HB HG HK; have HB := r0_; have HG := r1_; have HK := r2_; clear r0_ r1_ r2_; clear hb) | ((with_reducible refine gate_store (t := 69) (p := 7) (v := .tmp 24) rfl ?_); go_must (refine sagg_event rfl 69 (.tmp 7) (.tmp 24) rfl rfl g7 #[.string pk, .string pv] _ _ rfl rfl B7.out (by kernel_rfl) rfl rfl ?_); intro w3 hbk hu; have r0_ := Aside0.mk (HG.out.typed B7.out (by decide) (row := some g7) (fun b e => by injection e with e; exact e.symm) ⟨hu.os, hu.tape, hu.output, by rw [hu.size]; exact Nat.le_refl _, fun k_ hk_ hne_ => hu.block k_ (fun e_ => hne_ (by rw [e_]))⟩); have r1_ := Aside0.mk (keys_kept HK.out (row := some g7) ⟨hu.os, hu.tape, hu.output, by rw [hu.size]; exact Nat.le_refl _, fun k_ hk_ hne_ => hu.block k_ (fun e_ => hne_ (by rw [e_]))⟩ (fun b e cells hc => by injection e with e; subst e; rw [B7.out] at hc; injection hc with hc; injection hc with _ hc; cases hc)); have r2_ := Aside0.mk (hu.below HB.out G7.out); clear HG HK HB; have HG := r0_; have HK := r1_; have HB := r2_; clear r0_ r1_ r2_; clear B7; have B7 := Aside0.mk hbk; have c70 := (blk_cell B7.out 0).trans rfl; have c71 := (blk_cell B7.out 1).trans rfl; clear hbk hu) | (go_at_call 59; go_must (refine (version_none.calls ⟨pk, pv⟩ _ HS0.out HS1.out HVN.out).mono ?_); rintro e w4 ⟨he, hb⟩; unfold noVersion at he; subst he; have r0_ := Aside0.mk (below_then HB.out HB.out.size hb); have r1_ := Aside0.mk (HG.out.below hb); have r2_ := Aside0.mk (Kd.R_below HK.out hb); have r3_ := Aside0.mk ((hb.block _ (blk_lt B7.out)).trans B7.out); clear HB HG HK B7; have HB := r0_; have HG := r1_; have HK := r2_; have B7 := r3_; clear r0_ r1_ r2_ r3_; clear c70 c71; have c70 := (blk_cell B7.out 0).trans rfl; have c71 := (blk_cell B7.out 1).trans rfl; clear hb) | ((with_reducible refine gate_dst (N := 9) rfl ?_); refine box_event ?hg (N := 9) ?hd (cs := #[.int .i64 0, .string ⟨#[]⟩, .bool false]) (t := 80) ?hr ?_; (case hd => rfl); (case hg => rfl); (case hr => first | (go_simp; done) | (go_simp; rfl)); intro g9 hg w5 hbox hb; have G9 := Aside0.mk (show w.heap.size ≤ g9 from (by rw [hg]; exact HB.out.size)); have NG := Aside0.mk (show some w.heap.size ≠ some g9 ∧ ∀ g ∈ G, ∀ b, g.v.ownBlock = some b → some b ≠ some g9 from ⟨fun e => by injection e with e; have := HG.out.map_lt; omega, fun g hg' b hb' e => by injection e with e; obtain ⟨cs, hc⟩ := HG.out.own_block hg' hb'; have := blk_lt hc; omega⟩); have N7 := Aside0.mk (show g7 ≠ g9 from fun e => absurd (blk_lt B7.out) (by omega)); have B9 := Aside0.mk hbox; clear hbox hg; have r0_ := Aside0.mk (below_then HB.out HB.out.size hb); have r1_ := Aside0.mk (HG.out.below hb); have r2_ := Aside0.mk (Kd.R_below HK.out hb); have r3_ := Aside0.mk ((hb.block _ (blk_lt B7.out)).trans B7.out); clear HB HG HK B7; have HB := r0_; have HG := r1_; have HK := r2_; have B7 := r3_; clear r0_ r1_ r2_ r3_; clear hb) | ((with_reducible refine gate_store (t := 80) (p := 9) (v := .tmp 29) rfl ?_); go_must (refine sagg_event rfl 80 (.tmp 9) (.tmp 29) rfl rfl g9 #[.int .i64 0, .string ⟨#[]⟩, .bool false] _ _ rfl rfl B9.out (by kernel_rfl) rfl rfl ?_); intro w6 hbk hu; have r0_ := Aside0.mk (HG.out.kept (row := some g9) ⟨hu.os, hu.tape, hu.output, by rw [hu.size]; exact Nat.le_refl _, fun k_ hk_ hne_ => hu.block k_ (fun e_ => hne_ (by rw [e_]))⟩ NG.out.1 NG.out.2); have r1_ := Aside0.mk (keys_kept HK.out (row := some g9) ⟨hu.os, hu.tape, hu.output, by rw [hu.size]; exact Nat.le_refl _, fun k_ hk_ hne_ => hu.block k_ (fun e_ => hne_ (by rw [e_]))⟩ (fun b e cells hc => by injection e with e; subst e; rw [B9.out] at hc; injection hc with hc; injection hc with _ hc; cases hc)); have r2_ := Aside0.mk (hu.below HB.out G9.out); have r3_ := Aside0.mk (hu.blk B7.out N7.out); clear HG HK HB B7; have HG := r0_; have HK := r1_; have HB := r2_; have B7 := r3_; clear r0_ r1_ r2_ r3_; clear B9; have B9 := Aside0.mk hbk; clear c70 c71; have c70 := (blk_cell B7.out 0).trans rfl; have c71 := (blk_cell B7.out 1).trans rfl; have c90 := (blk_cell B9.out 0).trans rfl; have c91 := (blk_cell B9.out 1).trans rfl; have c92 := (blk_cell B9.out 2).trans rfl; clear hbk hu))
        go_wp2
        go_quiet (fail)
        try go_frame
        have d1_ := Aside0.mk (pw_below_drewN HB.out nq)
        have d2_ := Aside0.mk (HG.out.below (pw_below_drewN (Below.refl _ _) nq))
        have d3_ := Aside0.mk (Kd.R_drewN HK.out nq)
        have d4_ := Aside0.mk (blk_drewN B9.out nq)
        have ec90 : (w6.drewN nq).cell? ⟨g9, 0, none⟩ = some (.int .i64 0) := c90
        have ec91 : (w6.drewN nq).cell? ⟨g9, 1, none⟩ = some (.string ⟨#[]⟩) := c91
        have ec92 : (w6.drewN nq).cell? ⟨g9, 2, none⟩ = some (.bool false) := c92
        clear HB HG HK B9 B7 c90 c91 c92
        revert d1_ d2_ d3_ d4_ ec90 ec91 ec92
        generalize w6.drewN nq = x1
        intro HB HG HK B9 c90 c91 c92
        go_wp2
        go_ret2
        exact ⟨.slice none 0 0, by rw [← HF.out.2] <;> rfl, by rw [← HF.out.1]; exact Kd.R_nil _ _ _ _ _, HB.out⟩
      · have HVS1 := Aside0.mk hver
        rw [hver] at hpl
        simp only at hpl
        have HKZ : Aside0 (key.size ≤ 9223372036854775807) := ⟨by
          have e := hver
          unfold versionP at e
          split at e
          · cases e
          · split at e
            · cases e
            · split at e
              · cases e
              · obtain ⟨e1, _⟩ := Prod.mk.inj (Option.some.inj e)
                have e2 : pk.extract 0 ((pk.size : Int) - 8).toNat = key := e1
                rw [← e2, ByteArray.size_extract]
                have := HS0.out
                omega⟩
        obtain ⟨v0, hv0⟩ : ∃ v0, valG G key = v0 := ⟨_, rfl⟩
        obtain ⟨hb0, hhb⟩ : ∃ b, hasG G key = b := ⟨_, rfl⟩
        obtain ⟨vs0, hvs⟩ : ∃ vs0, rowG G key = vs0 := ⟨_, rfl⟩
        have HV0 := Aside0.mk hv0
        have HHB := Aside0.mk hhb
        have HVS := Aside0.mk hvs
        have HLV : Aside0 ((vs0.length + 1) * 32 ≤ 140737488355328) := ⟨by rw [← hvs]; have := HP.out.1 key; omega⟩
        have HLK : Aside0 (((G.map (·.k)).length + 1) * 16 ≤ 140737488355328) := ⟨by rw [List.length_map]; have := HP.out.2.1; omega⟩
        have HPX := Aside0.mk hx
        clear hver hv0 hhb hvs hx
        by_cases hi0 : ¬ 0 < i
        · have p2 : ¬ (0 : Int) < (i : Int) := by omega
          have p3 : decide ((0 : Int) < (i : Int)) = false := decide_eq_false p2
          have HPL : Aside0 (gatherL l0 n (i + 1) (addP (plainG G) key ⟨va, vb, vc⟩) = gatherL l0 l0.length 0 []) := ⟨by rw [if_neg (fun h => hi0 h.1)] at hpl; exact hpl⟩
          clear hpl
          go_wp2_with (first | ((with_reducible refine gate_dst (N := 7) rfl ?_); refine box_event ?hg (N := 7) ?hd (cs := #[.string ⟨#[]⟩, .string ⟨#[]⟩]) (t := 69) ?hr ?_; (case hd => rfl); (case hg => rfl); (case hr => first | (go_simp; done) | (go_simp; rfl)); intro g7 hg w2 hbox hb; have G7 := Aside0.mk (show w.heap.size ≤ g7 from (by rw [hg]; exact HB.out.size)); have B7 := Aside0.mk hbox; clear hbox hg; have r0_ := Aside0.mk (below_then HB.out HB.out.size hb); have r1_ := Aside0.mk (HG.out.below hb); have r2_ := Aside0.mk (Kd.R_below HK.out hb); clear HB HG HK; have HB := r0_; have HG := r1_; have HK := r2_; clear r0_ r1_ r2_; clear hb) | ((with_reducible refine gate_store (t := 69) (p := 7) (v := .tmp 24) rfl ?_); go_must (refine sagg_event rfl 69 (.tmp 7) (.tmp 24) rfl rfl g7 #[.string pk, .string pv] _ _ rfl rfl B7.out (by kernel_rfl) rfl rfl ?_); intro w3 hbk hu; have r0_ := Aside0.mk (HG.out.typed B7.out (by decide) (row := some g7) (fun b e => by injection e with e; exact e.symm) ⟨hu.os, hu.tape, hu.output, by rw [hu.size]; exact Nat.le_refl _, fun k_ hk_ hne_ => hu.block k_ (fun e_ => hne_ (by rw [e_]))⟩); have r1_ := Aside0.mk (keys_kept HK.out (row := some g7) ⟨hu.os, hu.tape, hu.output, by rw [hu.size]; exact Nat.le_refl _, fun k_ hk_ hne_ => hu.block k_ (fun e_ => hne_ (by rw [e_]))⟩ (fun b e cells hc => by injection e with e; subst e; rw [B7.out] at hc; injection hc with hc; injection hc with _ hc; cases hc)); have r2_ := Aside0.mk (hu.below HB.out G7.out); clear HG HK HB; have HG := r0_; have HK := r1_; have HB := r2_; clear r0_ r1_ r2_; clear B7; have B7 := Aside0.mk hbk; have c70 := (blk_cell B7.out 0).trans rfl; have c71 := (blk_cell B7.out 1).trans rfl; clear hbk hu) | (go_at_call 59; go_must (refine (version_some.calls ⟨pk, pv⟩ key ⟨va, vb, vc⟩ _ HS0.out HS1.out HVS1.out).mono ?_); rintro e w4 ⟨rfl, hb⟩; have r0_ := Aside0.mk (below_then HB.out HB.out.size hb); have r1_ := Aside0.mk (HG.out.below hb); have r2_ := Aside0.mk (Kd.R_below HK.out hb); have r3_ := Aside0.mk ((hb.block _ (blk_lt B7.out)).trans B7.out); clear HB HG HK B7; have HB := r0_; have HG := r1_; have HK := r2_; have B7 := r3_; clear r0_ r1_ r2_ r3_; clear c70 c71; have c70 := (blk_cell B7.out 0).trans rfl; have c71 := (blk_cell B7.out 1).trans rfl; clear hb) | ((with_reducible refine gate_dst (N := 9) rfl ?_); refine box_event ?hg (N := 9) ?hd (cs := #[.int .i64 0, .string ⟨#[]⟩, .bool false]) (t := 80) ?hr ?_; (case hd => rfl); (case hg => rfl); (case hr => first | (go_simp; done) | (go_simp; rfl)); intro g9 hg w5 hbox hb; have G9 := Aside0.mk (show w.heap.size ≤ g9 from (by rw [hg]; exact HB.out.size)); have NG := Aside0.mk (show some w.heap.size ≠ some g9 ∧ ∀ g ∈ G, ∀ b, g.v.ownBlock = some b → some b ≠ some g9 from ⟨fun e => by injection e with e; have := HG.out.map_lt; omega, fun g hg' b hb' e => by injection e with e; obtain ⟨cs, hc⟩ := HG.out.own_block hg' hb'; have := blk_lt hc; omega⟩); have N7 := Aside0.mk (show g7 ≠ g9 from fun e => absurd (blk_lt B7.out) (by omega)); have B9 := Aside0.mk hbox; clear hbox hg; have r0_ := Aside0.mk (below_then HB.out HB.out.size hb); have r1_ := Aside0.mk (HG.out.below hb); have r2_ := Aside0.mk (Kd.R_below HK.out hb); have r3_ := Aside0.mk ((hb.block _ (blk_lt B7.out)).trans B7.out); clear HB HG HK B7; have HB := r0_; have HG := r1_; have HK := r2_; have B7 := r3_; clear r0_ r1_ r2_ r3_; clear hb) | ((with_reducible refine gate_store (t := 80) (p := 9) (v := .tmp 29) rfl ?_); go_must (refine sagg_event rfl 80 (.tmp 9) (.tmp 29) rfl rfl g9 #[.int .i64 va, .string vb, .bool vc] _ _ rfl rfl B9.out (by kernel_rfl) rfl rfl ?_); intro w6 hbk hu; have r0_ := Aside0.mk (HG.out.kept (row := some g9) ⟨hu.os, hu.tape, hu.output, by rw [hu.size]; exact Nat.le_refl _, fun k_ hk_ hne_ => hu.block k_ (fun e_ => hne_ (by rw [e_]))⟩ NG.out.1 NG.out.2); have r1_ := Aside0.mk (keys_kept HK.out (row := some g9) ⟨hu.os, hu.tape, hu.output, by rw [hu.size]; exact Nat.le_refl _, fun k_ hk_ hne_ => hu.block k_ (fun e_ => hne_ (by rw [e_]))⟩ (fun b e cells hc => by injection e with e; subst e; rw [B9.out] at hc; injection hc with hc; injection hc with _ hc; cases hc)); have r2_ := Aside0.mk (hu.below HB.out G9.out); have r3_ := Aside0.mk (hu.blk B7.out N7.out); clear HG HK HB B7; have HG := r0_; have HK := r1_; have HB := r2_; have B7 := r3_; clear r0_ r1_ r2_ r3_; clear B9; have B9 := Aside0.mk hbk; clear c70 c71; have c70 := (blk_cell B7.out 0).trans rfl; have c71 := (blk_cell B7.out 1).trans rfl; have c90 := (blk_cell B9.out 0).trans rfl; have c91 := (blk_cell B9.out 1).trans rfl; have c92 := (blk_cell B9.out 2).trans rfl; clear hbk hu))
          go_wp2
          go_quiet (fail)
          try go_frame
          have d1_ := Aside0.mk (pw_below_drewN HB.out nq)
          have d2_ := Aside0.mk (HG.out.below (pw_below_drewN (Below.refl _ _) nq))
          have d3_ := Aside0.mk (Kd.R_drewN HK.out nq)
          have d4_ := Aside0.mk (blk_drewN B9.out nq)
          have ec90 : (w6.drewN nq).cell? ⟨g9, 0, none⟩ = some (.int .i64 va) := c90
          have ec91 : (w6.drewN nq).cell? ⟨g9, 1, none⟩ = some (.string vb) := c91
          have ec92 : (w6.drewN nq).cell? ⟨g9, 2, none⟩ = some (.bool vc) := c92
          clear HB HG HK B9 B7 c90 c91 c92
          revert d1_ d2_ d3_ d4_ ec90 ec91 ec92
          generalize w6.drewN nq = x1
          intro HB HG HK B9 c90 c91 c92
          cases hb0 with
          | true =>
            go_wp2_with (first | ((with_reducible refine gate_dst (N := 51) rfl ?_); go_must (refine grp_lookup_ok rfl _ _ rfl rfl HG.out key rfl HKZ.out ?_); rw [HV0.out, HHB.out]) | ((with_reducible refine gate_builtin (b := .append) (xs := #[.tmp 62, .tmp 64]) rfl ?_); at_builtin; have HVR := Aside0.mk (show Kd.R k80 80 _ w.heap.size (fun _ => True) v0 vs0 from HV0.out ▸ HVS.out ▸ HG.out.val key); go_must (refine Kd.R_append k80 (w0 := w) w.heap.size rfl (.tmp 62) (.tmp 64) 65 80 (.agg #[(.int .i64 0), (.string ⟨#[]⟩), (.bool false)]) 32 rfl Try.underlying65 info80 rfl (by decide) (by decide) v0 vs0 (⟨va, vb, vc⟩ : S80) [.int .i64 va, .string vb, .bool vc] (fun _ => True) (fun _ => False) rfl rfl (k80_mkM _ _ _ (⟨va, vb, vc⟩ : S80)) (fun _ hk => hk.elim) (fun _ _ => trivial) HVR.out HB.out HB.out.size HLV.out ?_); intro v6 w10 ho hb hgr hat; have HK2 := Aside0.mk (keys_kept HK.out hgr (fun b_ e_ cells_ hc_ => by obtain ⟨i_, o_⟩ := Kd.R_own HVR.out; obtain ⟨c_, h_⟩ := own_typed o_ b_ e_; rw [h_] at hc_; injection hc_ with hc_; injection hc_ with _ hc_; cases hc_)); clear HK HB; have HB := Aside0.mk hb; have HV6 := Aside0.mk ho; have HGR := Aside0.mk hgr; have HAT := Aside0.mk hat; clear ho hb hgr hat) | (at_mapUpdate; go_must (refine grp_put (w := x1) rfl _ _ _ rfl rfl HG.out key rfl HKZ.out v6 (vs0 ++ [(⟨va, vb, vc⟩ : S80)]) rfl (by have := HIL.out; omega) v0 HV0.out HGR.out HV6.out HAT.out ?_); intro w11 hG2 hg2 hmo; have HB3 := Aside0.mk (pw_below_grown HB.out (some w.heap.size) HB.out.size hg2 (fun k_ e_ => by injection e_ with e_; rw [← e_]; exact Nat.le_refl _)); have HK3 := Aside0.mk (keys_kept HK2.out hg2 (fun b_ e_ cells_ hc_ => by injection e_ with e_; subst e_; obtain ⟨es_, cl_, m_⟩ := hmo; rw [m_] at hc_; cases hc_)); have HG3 := Aside0.mk hG2; clear hG2 hg2 hmo HB HK2 HG HV6 HGR HAT))
            go_wp2
            go_roundg (l0.length - (i + 1))
            case measure => omega
            case rel =>
              refine ⟨i + 1, putG G key v6 (vs0 ++ [⟨va, vb, vc⟩]), by omega, by omega, by go_num, HB3, HG3, ⟨?_⟩, ⟨?_, ?_, ?_, ?_⟩⟩
              · rw [keys_put, HHB.out]; exact HK3.out
              · rw [← HVS.out]; exact fun k => Nat.le_trans (rows_put G key v6 _ k) (by have := HP.out.1 k; omega)
              · have e := congrArg List.length (keys_put G key v6 (vs0 ++ [⟨va, vb, vc⟩])); rw [List.length_map, HHB.out] at e; simp at e; have := HP.out.2.1; omega
              · intro g_ hg_; rcases putG_in hg_ with rfl | hg_; exact HKZ.out; exact HP.out.2.2.1 g_ hg_
              · rw [← HVS.out, plain_put, show l0.length - (i + 1) = n by have := HN.out; omega]; exact HPL.out
          | false =>
            obtain ⟨ks, hks⟩ : ∃ ks, G.map (·.k) = ks := ⟨_, rfl⟩
            rw [hks] at HK HLK
            have HKS := Aside0.mk hks
            clear hks
            go_wp2_with (first | ((with_reducible refine gate_dst (N := 51) rfl ?_); go_must (refine grp_lookup_ok rfl _ _ rfl rfl HG.out key rfl HKZ.out ?_); rw [HV0.out, HHB.out]) | ((with_reducible refine gate_builtin (b := .append) (xs := #[.tmp 56, .tmp 58]) rfl ?_); at_builtin; have HOW := Aside0.mk (keys_own HK.out); go_must (refine print_append_of (w0 := w) Value.string w.heap.size rfl (.tmp 56) (.tmp 58) 97 9 (.string ⟨#[]⟩) 16 rfl Try.underlying97 info9 rfl (by decide) u5 ks key rfl rfl rfl HOW.out HB.out HB.out.size HLK.out ?_); intro v5 w9 ho hb hg hat; have r1_ := Aside0.mk (HG.out.kept hg (fun e_ => by obtain ⟨i_, o_⟩ := Kd.R_own HK.out; obtain ⟨c_, h_⟩ := own_typed o_ w.heap.size e_.symm; obtain ⟨es_, cl_, m_⟩ := HG.out.map_obj; rw [m_] at h_; cases h_) (fun g_ hg_ b_ hb_ e_ => by obtain ⟨i_, o_⟩ := Kd.R_own HK.out; obtain ⟨c_, h_⟩ := own_typed o_ b_ e_.symm; obtain ⟨d_, k_⟩ := HG.out.own_block hg_ hb_; rw [k_] at h_; injection h_ with h_; injection h_ with _ h_; cases h_)); have r2_ := Aside0.mk (blk_grown B9.out hg (Kd.R_ne HK.out B9.out (by decide))); clear HB HK HG B9 c90 c91 c92; have HB := Aside0.mk hb; have HK := Aside0.mk (keys_of ho); have HG := r1_; have B9 := r2_; have c90 := (blk_cell B9.out 0).trans rfl; have c91 := (blk_cell B9.out 1).trans rfl; have c92 := (blk_cell B9.out 2).trans rfl; clear HOW ho hb hg hat r1_ r2_) | ((with_reducible refine gate_builtin (b := .append) (xs := #[.tmp 62, .tmp 64]) rfl ?_); at_builtin; have HVR := Aside0.mk (show Kd.R k80 80 _ w.heap.size (fun _ => True) v0 vs0 from HV0.out ▸ HVS.out ▸ HG.out.val key); go_must (refine Kd.R_append k80 (w0 := w) w.heap.size rfl (.tmp 62) (.tmp 64) 65 80 (.agg #[(.int .i64 0), (.string ⟨#[]⟩), (.bool false)]) 32 rfl Try.underlying65 info80 rfl (by decide) (by decide) v0 vs0 (⟨va, vb, vc⟩ : S80) [.int .i64 va, .string vb, .bool vc] (fun _ => True) (fun _ => False) rfl rfl (k80_mkM _ _ _ (⟨va, vb, vc⟩ : S80)) (fun _ hk => hk.elim) (fun _ _ => trivial) HVR.out HB.out HB.out.size HLV.out ?_); intro v6 w10 ho hb hgr hat; have HK2 := Aside0.mk (keys_kept HK.out hgr (fun b_ e_ cells_ hc_ => by obtain ⟨i_, o_⟩ := Kd.R_own HVR.out; obtain ⟨c_, h_⟩ := own_typed o_ b_ e_; rw [h_] at hc_; injection hc_ with hc_; injection hc_ with _ hc_; cases hc_)); clear HK HB; have HB := Aside0.mk hb; have HV6 := Aside0.mk ho; have HGR := Aside0.mk hgr; have HAT := Aside0.mk hat; clear ho hb hgr hat) | (at_mapUpdate; go_must (refine grp_put (w := w9) rfl _ _ _ rfl rfl HG.out key rfl HKZ.out v6 (vs0 ++ [(⟨va, vb, vc⟩ : S80)]) rfl (by have := HIL.out; omega) v0 HV0.out HGR.out HV6.out HAT.out ?_); intro w11 hG2 hg2 hmo; have HB3 := Aside0.mk (pw_below_grown HB.out (some w.heap.size) HB.out.size hg2 (fun k_ e_ => by injection e_ with e_; rw [← e_]; exact Nat.le_refl _)); have HK3 := Aside0.mk (keys_kept HK2.out hg2 (fun b_ e_ cells_ hc_ => by injection e_ with e_; subst e_; obtain ⟨es_, cl_, m_⟩ := hmo; rw [m_] at hc_; cases hc_)); have HG3 := Aside0.mk hG2; clear hG2 hg2 hmo HB HK2 HG HV6 HGR HAT))
            go_wp2
            go_roundg (l0.length - (i + 1))
            case measure => omega
            case rel =>
              refine ⟨i + 1, putG G key v6 (vs0 ++ [⟨va, vb, vc⟩]), by omega, by omega, by go_num, HB3, HG3, ⟨?_⟩, ⟨?_, ?_, ?_, ?_⟩⟩
              · rw [keys_put, HHB.out, HKS.out]; exact HK3.out
              · rw [← HVS.out]; exact fun k => Nat.le_trans (rows_put G key v6 _ k) (by have := HP.out.1 k; omega)
              · have e := congrArg List.length (keys_put G key v6 (vs0 ++ [⟨va, vb, vc⟩])); rw [List.length_map, HHB.out] at e; simp at e; have := HP.out.2.1; omega
              · intro g_ hg_; rcases putG_in hg_ with rfl | hg_; exact HKZ.out; exact HP.out.2.2.1 g_ hg_
              · rw [← HVS.out, plain_put, show l0.length - (i + 1) = n by have := HN.out; omega]; exact HPL.out
        · obtain ⟨j, rfl⟩ : ∃ j, i = j + 1 := ⟨i - 1, by omega⟩
          obtain ⟨ad', e', k0, k1⟩ := at_T69 HC.out (j : Int) (by omega) (by omega)
          cases e'
          rw [rdT69_at] at k0 k1
          simp only [Int.toNat_natCast] at k0 k1
          obtain ⟨qk, hqk⟩ : ∃ q, (pairAt l0 j).f0 = q := ⟨_, rfl⟩
          rw [hqk] at k0
          have K0 := Aside0.mk k0
          obtain ⟨q, hq⟩ : ∃ q, ltS qk pk = q := ⟨_, rfl⟩
          have hpl2 : (if 0 < j + 1 ∧ q = false then none else gatherL l0 n (j + 1 + 1) (addP (plainG G) key ⟨va, vb, vc⟩)) = gatherL l0 l0.length 0 [] := by
            rw [← hpl, show j + 1 - 1 = j from rfl, hqk, hq]
          clear hpl k0 k1 hqk hi0
          unfold ltS at hq
          have p0 : (0 : Int) ≤ (j : Int) := by omega
          have p1 : (j : Int) < (l0.length : Int) := by omega
          simp only [Int.natCast_add, Int.cast_ofNat_Int] at hiz hiw ⊢
          have p2 : (0 : Int) < (j : Int) + 1 := by omega
          have p4 : IntKind.i64.wrap (j : Int) = (j : Int) := by simp [IntKind.wrap, IntKind.bits, IntKind.signed]; omega
          have p3 : decide ((0 : Int) < (j : Int) + 1) = true := decide_eq_true p2
          cases q with
          | false =>
            have HF : Aside0 ([] = r1 ∧ (4 : Int) = r2) := ⟨by
              rw [if_pos ⟨by omega, rfl⟩] at hpl2
              have e := HH.out
              rw [← hpl2] at e
              exact ⟨(Prod.mk.inj (Option.some.inj e)).1, (Prod.mk.inj (Option.some.inj e)).2⟩⟩
            clear hpl2
            go_wp2_with (first | ((with_reducible refine gate_dst (N := 7) rfl ?_); refine box_event ?hg (N := 7) ?hd (cs := #[.string ⟨#[]⟩, .string ⟨#[]⟩]) (t := 69) ?hr ?_; (case hd => rfl); (case hg => rfl); (case hr => first | (go_simp; done) | (go_simp; rfl)); intro g7 hg w2 hbox hb; have G7 := Aside0.mk (show w.heap.size ≤ g7 from (by rw [hg]; exact HB.out.size)); have B7 := Aside0.mk hbox; clear hbox hg; have r0_ := Aside0.mk (below_then HB.out HB.out.size hb); have r1_ := Aside0.mk (HG.out.below hb); have r2_ := Aside0.mk (Kd.R_below HK.out hb); clear HB HG HK; have HB := r0_; have HG := r1_; have HK := r2_; clear r0_ r1_ r2_; clear hb) | ((with_reducible refine gate_store (t := 69) (p := 7) (v := .tmp 24) rfl ?_); go_must (refine sagg_event rfl 69 (.tmp 7) (.tmp 24) rfl rfl g7 #[.string pk, .string pv] _ _ rfl rfl B7.out (by kernel_rfl) rfl rfl ?_); intro w3 hbk hu; have r0_ := Aside0.mk (HG.out.typed B7.out (by decide) (row := some g7) (fun b e => by injection e with e; exact e.symm) ⟨hu.os, hu.tape, hu.output, by rw [hu.size]; exact Nat.le_refl _, fun k_ hk_ hne_ => hu.block k_ (fun e_ => hne_ (by rw [e_]))⟩); have r1_ := Aside0.mk (keys_kept HK.out (row := some g7) ⟨hu.os, hu.tape, hu.output, by rw [hu.size]; exact Nat.le_refl _, fun k_ hk_ hne_ => hu.block k_ (fun e_ => hne_ (by rw [e_]))⟩ (fun b e cells hc => by injection e with e; subst e; rw [B7.out] at hc; injection hc with hc; injection hc with _ hc; cases hc)); have r2_ := Aside0.mk (hu.below HB.out G7.out); clear HG HK HB; have HG := r0_; have HK := r1_; have HB := r2_; clear r0_ r1_ r2_; clear B7; have B7 := Aside0.mk hbk; have c70 := (blk_cell B7.out 0).trans rfl; have c71 := (blk_cell B7.out 1).trans rfl; clear hbk hu) | (go_at_call 59; go_must (refine (version_some.calls ⟨pk, pv⟩ key ⟨va, vb, vc⟩ _ HS0.out HS1.out HVS1.out).mono ?_); rintro e w4 ⟨rfl, hb⟩; have r0_ := Aside0.mk (below_then HB.out HB.out.size hb); have r1_ := Aside0.mk (HG.out.below hb); have r2_ := Aside0.mk (Kd.R_below HK.out hb); have r3_ := Aside0.mk ((hb.block _ (blk_lt B7.out)).trans B7.out); clear HB HG HK B7; have HB := r0_; have HG := r1_; have HK := r2_; have B7 := r3_; clear r0_ r1_ r2_ r3_; clear c70 c71; have c70 := (blk_cell B7.out 0).trans rfl; have c71 := (blk_cell B7.out 1).trans rfl; clear hb) | ((with_reducible refine gate_dst (N := 9) rfl ?_); refine box_event ?hg (N := 9) ?hd (cs := #[.int .i64 0, .string ⟨#[]⟩, .bool false]) (t := 80) ?hr ?_; (case hd => rfl); (case hg => rfl); (case hr => first | (go_simp; done) | (go_simp; rfl)); intro g9 hg w5 hbox hb; have G9 := Aside0.mk (show w.heap.size ≤ g9 from (by rw [hg]; exact HB.out.size)); have NG := Aside0.mk (show some w.heap.size ≠ some g9 ∧ ∀ g ∈ G, ∀ b, g.v.ownBlock = some b → some b ≠ some g9 from ⟨fun e => by injection e with e; have := HG.out.map_lt; omega, fun g hg' b hb' e => by injection e with e; obtain ⟨cs, hc⟩ := HG.out.own_block hg' hb'; have := blk_lt hc; omega⟩); have N7 := Aside0.mk (show g7 ≠ g9 from fun e => absurd (blk_lt B7.out) (by omega)); have B9 := Aside0.mk hbox; clear hbox hg; have r0_ := Aside0.mk (below_then HB.out HB.out.size hb); have r1_ := Aside0.mk (HG.out.below hb); have r2_ := Aside0.mk (Kd.R_below HK.out hb); have r3_ := Aside0.mk ((hb.block _ (blk_lt B7.out)).trans B7.out); clear HB HG HK B7; have HB := r0_; have HG := r1_; have HK := r2_; have B7 := r3_; clear r0_ r1_ r2_ r3_; clear hb) | ((with_reducible refine gate_store (t := 80) (p := 9) (v := .tmp 29) rfl ?_); go_must (refine sagg_event rfl 80 (.tmp 9) (.tmp 29) rfl rfl g9 #[.int .i64 va, .string vb, .bool vc] _ _ rfl rfl B9.out (by kernel_rfl) rfl rfl ?_); intro w6 hbk hu; have r0_ := Aside0.mk (HG.out.kept (row := some g9) ⟨hu.os, hu.tape, hu.output, by rw [hu.size]; exact Nat.le_refl _, fun k_ hk_ hne_ => hu.block k_ (fun e_ => hne_ (by rw [e_]))⟩ NG.out.1 NG.out.2); have r1_ := Aside0.mk (keys_kept HK.out (row := some g9) ⟨hu.os, hu.tape, hu.output, by rw [hu.size]; exact Nat.le_refl _, fun k_ hk_ hne_ => hu.block k_ (fun e_ => hne_ (by rw [e_]))⟩ (fun b e cells hc => by injection e with e; subst e; rw [B9.out] at hc; injection hc with hc; injection hc with _ hc; cases hc)); have r2_ := Aside0.mk (hu.below HB.out G9.out); have r3_ := Aside0.mk (hu.blk B7.out N7.out); clear HG HK HB B7; have HG := r0_; have HK := r1_; have HB := r2_; have B7 := r3_; clear r0_ r1_ r2_ r3_; clear B9; have B9 := Aside0.mk hbk; clear c70 c71; have c70 := (blk_cell B7.out 0).trans rfl; have c71 := (blk_cell B7.out 1).trans rfl; have c90 := (blk_cell B9.out 0).trans rfl; have c91 := (blk_cell B9.out 1).trans rfl; have c92 := (blk_cell B9.out 2).trans rfl; clear hbk hu))
            have k0 := (HB.out.cell (World.block_lt_of_cell? w _ K0.out)).trans K0.out
            go_wp2
            go_quiet (fail)
            try go_frame
            have d1_ := Aside0.mk (pw_below_drewN HB.out nq)
            have d2_ := Aside0.mk (HG.out.below (pw_below_drewN (Below.refl _ _) nq))
            have d3_ := Aside0.mk (Kd.R_drewN HK.out nq)
            have d4_ := Aside0.mk (blk_drewN B9.out nq)
            have ec90 : (w6.drewN nq).cell? ⟨g9, 0, none⟩ = some (.int .i64 va) := c90
            have ec91 : (w6.drewN nq).cell? ⟨g9, 1, none⟩ = some (.string vb) := c91
            have ec92 : (w6.drewN nq).cell? ⟨g9, 2, none⟩ = some (.bool vc) := c92
            clear HB HG HK B9 B7 c90 c91 c92
            revert d1_ d2_ d3_ d4_ ec90 ec91 ec92
            generalize w6.drewN nq = x1
            intro HB HG HK B9 c90 c91 c92
            go_wp2
            go_ret2
            exact ⟨.slice none 0 0, by rw [← HF.out.2] <;> rfl, by rw [← HF.out.1]; exact Kd.R_nil _ _ _ _ _, HB.out⟩
          | true =>
            have HPL : Aside0 (gatherL l0 n (j + 1 + 1) (addP (plainG G) key ⟨va, vb, vc⟩) = gatherL l0 l0.length 0 []) := ⟨by rw [if_neg (by simp)] at hpl2; exact hpl2⟩
            clear hpl2
            go_wp2_with (first | ((with_reducible refine gate_dst (N := 7) rfl ?_); refine box_event ?hg (N := 7) ?hd (cs := #[.string ⟨#[]⟩, .string ⟨#[]⟩]) (t := 69) ?hr ?_; (case hd => rfl); (case hg => rfl); (case hr => first | (go_simp; done) | (go_simp; rfl)); intro g7 hg w2 hbox hb; have G7 := Aside0.mk (show w.heap.size ≤ g7 from (by rw [hg]; exact HB.out.size)); have B7 := Aside0.mk hbox; clear hbox hg; have r0_ := Aside0.mk (below_then HB.out HB.out.size hb); have r1_ := Aside0.mk (HG.out.below hb); have r2_ := Aside0.mk (Kd.R_below HK.out hb); clear HB HG HK; have HB := r0_; have HG := r1_; have HK := r2_; clear r0_ r1_ r2_; clear hb) | ((with_reducible refine gate_store (t := 69) (p := 7) (v := .tmp 24) rfl ?_); go_must (refine sagg_event rfl 69 (.tmp 7) (.tmp 24) rfl rfl g7 #[.string pk, .string pv] _ _ rfl rfl B7.out (by kernel_rfl) rfl rfl ?_); intro w3 hbk hu; have r0_ := Aside0.mk (HG.out.typed B7.out (by decide) (row := some g7) (fun b e => by injection e with e; exact e.symm) ⟨hu.os, hu.tape, hu.output, by rw [hu.size]; exact Nat.le_refl _, fun k_ hk_ hne_ => hu.block k_ (fun e_ => hne_ (by rw [e_]))⟩); have r1_ := Aside0.mk (keys_kept HK.out (row := some g7) ⟨hu.os, hu.tape, hu.output, by rw [hu.size]; exact Nat.le_refl _, fun k_ hk_ hne_ => hu.block k_ (fun e_ => hne_ (by rw [e_]))⟩ (fun b e cells hc => by injection e with e; subst e; rw [B7.out] at hc; injection hc with hc; injection hc with _ hc; cases hc)); have r2_ := Aside0.mk (hu.below HB.out G7.out); clear HG HK HB; have HG := r0_; have HK := r1_; have HB := r2_; clear r0_ r1_ r2_; clear B7; have B7 := Aside0.mk hbk; have c70 := (blk_cell B7.out 0).trans rfl; have c71 := (blk_cell B7.out 1).trans rfl; clear hbk hu) | (go_at_call 59; go_must (refine (version_some.calls ⟨pk, pv⟩ key ⟨va, vb, vc⟩ _ HS0.out HS1.out HVS1.out).mono ?_); rintro e w4 ⟨rfl, hb⟩; have r0_ := Aside0.mk (below_then HB.out HB.out.size hb); have r1_ := Aside0.mk (HG.out.below hb); have r2_ := Aside0.mk (Kd.R_below HK.out hb); have r3_ := Aside0.mk ((hb.block _ (blk_lt B7.out)).trans B7.out); clear HB HG HK B7; have HB := r0_; have HG := r1_; have HK := r2_; have B7 := r3_; clear r0_ r1_ r2_ r3_; clear c70 c71; have c70 := (blk_cell B7.out 0).trans rfl; have c71 := (blk_cell B7.out 1).trans rfl; clear hb) | ((with_reducible refine gate_dst (N := 9) rfl ?_); refine box_event ?hg (N := 9) ?hd (cs := #[.int .i64 0, .string ⟨#[]⟩, .bool false]) (t := 80) ?hr ?_; (case hd => rfl); (case hg => rfl); (case hr => first | (go_simp; done) | (go_simp; rfl)); intro g9 hg w5 hbox hb; have G9 := Aside0.mk (show w.heap.size ≤ g9 from (by rw [hg]; exact HB.out.size)); have NG := Aside0.mk (show some w.heap.size ≠ some g9 ∧ ∀ g ∈ G, ∀ b, g.v.ownBlock = some b → some b ≠ some g9 from ⟨fun e => by injection e with e; have := HG.out.map_lt; omega, fun g hg' b hb' e => by injection e with e; obtain ⟨cs, hc⟩ := HG.out.own_block hg' hb'; have := blk_lt hc; omega⟩); have N7 := Aside0.mk (show g7 ≠ g9 from fun e => absurd (blk_lt B7.out) (by omega)); have B9 := Aside0.mk hbox; clear hbox hg; have r0_ := Aside0.mk (below_then HB.out HB.out.size hb); have r1_ := Aside0.mk (HG.out.below hb); have r2_ := Aside0.mk (Kd.R_below HK.out hb); have r3_ := Aside0.mk ((hb.block _ (blk_lt B7.out)).trans B7.out); clear HB HG HK B7; have HB := r0_; have HG := r1_; have HK := r2_; have B7 := r3_; clear r0_ r1_ r2_ r3_; clear hb) | ((with_reducible refine gate_store (t := 80) (p := 9) (v := .tmp 29) rfl ?_); go_must (refine sagg_event rfl 80 (.tmp 9) (.tmp 29) rfl rfl g9 #[.int .i64 va, .string vb, .bool vc] _ _ rfl rfl B9.out (by kernel_rfl) rfl rfl ?_); intro w6 hbk hu; have r0_ := Aside0.mk (HG.out.kept (row := some g9) ⟨hu.os, hu.tape, hu.output, by rw [hu.size]; exact Nat.le_refl _, fun k_ hk_ hne_ => hu.block k_ (fun e_ => hne_ (by rw [e_]))⟩ NG.out.1 NG.out.2); have r1_ := Aside0.mk (keys_kept HK.out (row := some g9) ⟨hu.os, hu.tape, hu.output, by rw [hu.size]; exact Nat.le_refl _, fun k_ hk_ hne_ => hu.block k_ (fun e_ => hne_ (by rw [e_]))⟩ (fun b e cells hc => by injection e with e; subst e; rw [B9.out] at hc; injection hc with hc; injection hc with _ hc; cases hc)); have r2_ := Aside0.mk (hu.below HB.out G9.out); have r3_ := Aside0.mk (hu.blk B7.out N7.out); clear HG HK HB B7; have HG := r0_; have HK := r1_; have HB := r2_; have B7 := r3_; clear r0_ r1_ r2_ r3_; clear B9; have B9 := Aside0.mk hbk; clear c70 c71; have c70 := (blk_cell B7.out 0).trans rfl; have c71 := (blk_cell B7.out 1).trans rfl; have c90 := (blk_cell B9.out 0).trans rfl; have c91 := (blk_cell B9.out 1).trans rfl; have c92 := (blk_cell B9.out 2).trans rfl; clear hbk hu))
            have k0 := (HB.out.cell (World.block_lt_of_cell? w _ K0.out)).trans K0.out
            go_wp2
            go_quiet (fail)
            try go_frame
            have d1_ := Aside0.mk (pw_below_drewN HB.out nq)
            have d2_ := Aside0.mk (HG.out.below (pw_below_drewN (Below.refl _ _) nq))
            have d3_ := Aside0.mk (Kd.R_drewN HK.out nq)
            have d4_ := Aside0.mk (blk_drewN B9.out nq)
            have ec90 : (w6.drewN nq).cell? ⟨g9, 0, none⟩ = some (.int .i64 va) := c90
            have ec91 : (w6.drewN nq).cell? ⟨g9, 1, none⟩ = some (.string vb) := c91
            have ec92 : (w6.drewN nq).cell? ⟨g9, 2, none⟩ = some (.bool vc) := c92
            clear HB HG HK B9 B7 c90 c91 c92
            revert d1_ d2_ d3_ d4_ ec90 ec91 ec92
            generalize w6.drewN nq = x1
            intro HB HG HK B9 c90 c91 c92
            cases hb0 with
            | true =>
              go_wp2_with (first | ((with_reducible refine gate_dst (N := 51) rfl ?_); go_must (refine grp_lookup_ok rfl _ _ rfl rfl HG.out key rfl HKZ.out ?_); rw [HV0.out, HHB.out]) | ((with_reducible refine gate_builtin (b := .append) (xs := #[.tmp 62, .tmp 64]) rfl ?_); at_builtin; have HVR := Aside0.mk (show Kd.R k80 80 _ w.heap.size (fun _ => True) v0 vs0 from HV0.out ▸ HVS.out ▸ HG.out.val key); go_must (refine Kd.R_append k80 (w0 := w) w.heap.size rfl (.tmp 62) (.tmp 64) 65 80 (.agg #[(.int .i64 0), (.string ⟨#[]⟩), (.bool false)]) 32 rfl Try.underlying65 info80 rfl (by decide) (by decide) v0 vs0 (⟨va, vb, vc⟩ : S80) [.int .i64 va, .string vb, .bool vc] (fun _ => True) (fun _ => False) rfl rfl (k80_mkM _ _ _ (⟨va, vb, vc⟩ : S80)) (fun _ hk => hk.elim) (fun _ _ => trivial) HVR.out HB.out HB.out.size HLV.out ?_); intro v6 w10 ho hb hgr hat; have HK2 := Aside0.mk (keys_kept HK.out hgr (fun b_ e_ cells_ hc_ => by obtain ⟨i_, o_⟩ := Kd.R_own HVR.out; obtain ⟨c_, h_⟩ := own_typed o_ b_ e_; rw [h_] at hc_; injection hc_ with hc_; injection hc_ with _ hc_; cases hc_)); clear HK HB; have HB := Aside0.mk hb; have HV6 := Aside0.mk ho; have HGR := Aside0.mk hgr; have HAT := Aside0.mk hat; clear ho hb hgr hat) | (at_mapUpdate; go_must (refine grp_put (w := x1) rfl _ _ _ rfl rfl HG.out key rfl HKZ.out v6 (vs0 ++ [(⟨va, vb, vc⟩ : S80)]) rfl (by have := HIL.out; omega) v0 HV0.out HGR.out HV6.out HAT.out ?_); intro w11 hG2 hg2 hmo; have HB3 := Aside0.mk (pw_below_grown HB.out (some w.heap.size) HB.out.size hg2 (fun k_ e_ => by injection e_ with e_; rw [← e_]; exact Nat.le_refl _)); have HK3 := Aside0.mk (keys_kept HK2.out hg2 (fun b_ e_ cells_ hc_ => by injection e_ with e_; subst e_; obtain ⟨es_, cl_, m_⟩ := hmo; rw [m_] at hc_; cases hc_)); have HG3 := Aside0.mk hG2; clear hG2 hg2 hmo HB HK2 HG HV6 HGR HAT))
              go_wp2
              go_roundg (l0.length - ((j + 1) + 1))
              case measure => omega
              case rel =>
                refine ⟨(j + 1) + 1, putG G key v6 (vs0 ++ [⟨va, vb, vc⟩]), by omega, by omega, by go_num, HB3, HG3, ⟨?_⟩, ⟨?_, ?_, ?_, ?_⟩⟩
                · rw [keys_put, HHB.out]; exact HK3.out
                · rw [← HVS.out]; exact fun k => Nat.le_trans (rows_put G key v6 _ k) (by have := HP.out.1 k; omega)
                · have e := congrArg List.length (keys_put G key v6 (vs0 ++ [⟨va, vb, vc⟩])); rw [List.length_map, HHB.out] at e; simp at e; have := HP.out.2.1; omega
                · intro g_ hg_; rcases putG_in hg_ with rfl | hg_; exact HKZ.out; exact HP.out.2.2.1 g_ hg_
                · rw [← HVS.out, plain_put, show l0.length - ((j + 1) + 1) = n by have := HN.out; omega]; exact HPL.out
            | false =>
              obtain ⟨ks, hks⟩ : ∃ ks, G.map (·.k) = ks := ⟨_, rfl⟩
              rw [hks] at HK HLK
              have HKS := Aside0.mk hks
              clear hks
              go_wp2_with (first | ((with_reducible refine gate_dst (N := 51) rfl ?_); go_must (refine grp_lookup_ok rfl _ _ rfl rfl HG.out key rfl HKZ.out ?_); rw [HV0.out, HHB.out]) | ((with_reducible refine gate_builtin (b := .append) (xs := #[.tmp 56, .tmp 58]) rfl ?_); at_builtin; have HOW := Aside0.mk (keys_own HK.out); go_must (refine print_append_of (w0 := w) Value.string w.heap.size rfl (.tmp 56) (.tmp 58) 97 9 (.string ⟨#[]⟩) 16 rfl Try.underlying97 info9 rfl (by decide) u5 ks key rfl rfl rfl HOW.out HB.out HB.out.size HLK.out ?_); intro v5 w9 ho hb hg hat; have r1_ := Aside0.mk (HG.out.kept hg (fun e_ => by obtain ⟨i_, o_⟩ := Kd.R_own HK.out; obtain ⟨c_, h_⟩ := own_typed o_ w.heap.size e_.symm; obtain ⟨es_, cl_, m_⟩ := HG.out.map_obj; rw [m_] at h_; cases h_) (fun g_ hg_ b_ hb_ e_ => by obtain ⟨i_, o_⟩ := Kd.R_own HK.out; obtain ⟨c_, h_⟩ := own_typed o_ b_ e_.symm; obtain ⟨d_, k_⟩ := HG.out.own_block hg_ hb_; rw [k_] at h_; injection h_ with h_; injection h_ with _ h_; cases h_)); have r2_ := Aside0.mk (blk_grown B9.out hg (Kd.R_ne HK.out B9.out (by decide))); clear HB HK HG B9 c90 c91 c92; have HB := Aside0.mk hb; have HK := Aside0.mk (keys_of ho); have HG := r1_; have B9 := r2_; have c90 := (blk_cell B9.out 0).trans rfl; have c91 := (blk_cell B9.out 1).trans rfl; have c92 := (blk_cell B9.out 2).trans rfl; clear HOW ho hb hg hat r1_ r2_) | ((with_reducible refine gate_builtin (b := .append) (xs := #[.tmp 62, .tmp 64]) rfl ?_); at_builtin; have HVR := Aside0.mk (show Kd.R k80 80 _ w.heap.size (fun _ => True) v0 vs0 from HV0.out ▸ HVS.out ▸ HG.out.val key); go_must (refine Kd.R_append k80 (w0 := w) w.heap.size rfl (.tmp 62) (.tmp 64) 65 80 (.agg #[(.int .i64 0), (.string ⟨#[]⟩), (.bool false)]) 32 rfl Try.underlying65 info80 rfl (by decide) (by decide) v0 vs0 (⟨va, vb, vc⟩ : S80) [.int .i64 va, .string vb, .bool vc] (fun _ => True) (fun _ => False) rfl rfl (k80_mkM _ _ _ (⟨va, vb, vc⟩ : S80)) (fun _ hk => hk.elim) (fun _ _ => trivial) HVR.out HB.out HB.out.size HLV.out ?_); intro v6 w10 ho hb hgr hat; have HK2 := Aside0.mk (keys_kept HK.out hgr (fun b_ e_ cells_ hc_ => by obtain ⟨i_, o_⟩ := Kd.R_own HVR.out; obtain ⟨c_, h_⟩ := own_typed o_ b_ e_; rw [h_] at hc_; injection hc_ with hc_; injection hc_ with _ hc_; cases hc_)); clear HK HB; have HB := Aside0.mk hb; have HV6 := Aside0.mk ho; have HGR := Aside0.mk hgr; have HAT := Aside0.mk hat; clear ho hb hgr hat) | (at_mapUpdate; go_must (refine grp_put (w := w9) rfl _ _ _ rfl rfl HG.out key rfl HKZ.out v6 (vs0 ++ [(⟨va, vb, vc⟩ : S80)]) rfl (by have := HIL.out; omega) v0 HV0.out HGR.out HV6.out HAT.out ?_); intro w11 hG2 hg2 hmo; have HB3 := Aside0.mk (pw_below_grown HB.out (some w.heap.size) HB.out.size hg2 (fun k_ e_ => by injection e_ with e_; rw [← e_]; exact Nat.le_refl _)); have HK3 := Aside0.mk (keys_kept HK2.out hg2 (fun b_ e_ cells_ hc_ => by injection e_ with e_; subst e_; obtain ⟨es_, cl_, m_⟩ := hmo; rw [m_] at hc_; cases hc_)); have HG3 := Aside0.mk hG2; clear hG2 hg2 hmo HB HK2 HG HV6 HGR HAT))
              go_wp2
              go_roundg (l0.length - ((j + 1) + 1))
              case measure => omega
              case rel =>
                refine ⟨(j + 1) + 1, putG G key v6 (vs0 ++ [⟨va, vb, vc⟩]), by omega, by omega, by go_num, HB3, HG3, ⟨?_⟩, ⟨?_, ?_, ?_, ?_⟩⟩
                · rw [keys_put, HHB.out, HKS.out]; exact HK3.out
                · rw [← HVS.out]; exact fun k => Nat.le_trans (rows_put G key v6 _ k) (by have := HP.out.1 k; omega)
                · have e := congrArg List.length (keys_put G key v6 (vs0 ++ [⟨va, vb, vc⟩])); rw [List.length_map, HHB.out] at e; simp at e; have := HP.out.2.1; omega
                · intro g_ hg_; rcases putG_in hg_ with rfl | hg_; exact HKZ.out; exact HP.out.2.2.1 g_ hg_
                · rw [← HVS.out, plain_put, show l0.length - ((j + 1) + 1) = n by have := HN.out; omega]; exact HPL.out
    · have hiz : ¬ (i : Int) < (l0.length : Int) := by omega
      have hA : gatherL l0 l0.length 0 [] = some (plainG G) := by
        have e := HP.out.2.2.2
        rw [show l0.length - i = 0 by omega, gatherL] at e
        exact e.symm
      have HF : Aside0 (itemsL k (plainG G) (sortS (G.map (·.k))) [] = some (r1, r2)) := ⟨by
        have e := HH.out
        rw [hA] at e
        simp only at e
        rw [plain_keys] at e
        exact e⟩
      obtain ⟨ks, hks⟩ : ∃ ks, G.map (·.k) = ks := ⟨_, rfl⟩
      rw [hks] at HK HF
      have hkl : ks.length ≤ 1000000000 := by rw [← hks, List.length_map]; have := HP.out.2.1; have := HFIT.out.1; omega
      obtain ⟨ss, hss⟩ : ∃ ss, sortS ks = ss := ⟨_, rfl⟩
      have hsl : ss.length = ks.length := by rw [← hss]; exact sortS_length ks
      have hsz0 : ss.length ≤ 1000000000 := by omega
      have HSS := Aside0.mk hss
      have HSZ := Aside0.mk hsz0
      have HKL := Aside0.mk (show ks.length < 4611686018427387904 by omega)
      have HKK : Aside0 (∀ x ∈ ss, x.size ≤ 9223372036854775807) := ⟨fun x hx => by
        rw [← hss, sortS_mem, ← hks] at hx
        obtain ⟨g, hg, rfl⟩ := List.mem_map.1 hx
        exact HP.out.2.2.1 g hg⟩
      rw [hss] at HF
      obtain ⟨Ak, ck, hu5, _, _⟩ := Kd.R_reads HK.out
      rw [← hsl] at hu5
      subst hu5
      have hssz : (ss.length : Int) ≤ 1000000000 := by omega
      clear hA hks hss hsl hkl hsz0 HH
      go_wp2_with (go_at_call 60; go_must (refine (SortStr.calls w.heap.size (fun _ => True) (.slice Ak ss.length ck) ks _ HK.out HKL.out).mono ?_); rintro e w20 ⟨rfl, hr, hb, hgr⟩; have r1_ := Aside0.mk (HG.out.kept hgr (fun e_ => by obtain ⟨i_, o_⟩ := Kd.R_own HK.out; obtain ⟨c_, h_⟩ := own_typed o_ w.heap.size e_.symm; obtain ⟨es_, cl_, m_⟩ := HG.out.map_obj; rw [m_] at h_; cases h_) (fun g_ hg_ b_ hb_ e_ => by obtain ⟨i_, o_⟩ := Kd.R_own HK.out; obtain ⟨c_, h_⟩ := own_typed o_ b_ e_.symm; obtain ⟨d_, k_⟩ := HG.out.own_block hg_ hb_; rw [k_] at h_; injection h_ with h_; injection h_ with _ h_; cases h_)); have r2_ := Aside0.mk (HB.out.trans hb); rw [HSS.out] at hr; clear HB HG HK; have HB := r2_; have HG := r1_; have HK := Aside0.mk hr; clear r1_ r2_ hr hb hgr)
      go_loopg [13, 71] ss.length (fun gg s13 s71 wr => ∃ (j : Nat) (out : List S67), j ≤ ss.length ∧ out.length ≤ j ∧ ss.length - j ≤ gg ∧ s71 = .int .i64 j ∧ Aside0 (Below w.heap.size w wr) ∧ Aside0 (Grp wr w.heap.size w.heap.size i G) ∧ Aside0 (Kd.R Kd.string 9 wr w.heap.size (fun _ => True) (.slice Ak ss.length ck) ss) ∧ Aside0 (Kd.R k67 67 wr w.heap.size (fun _ => True) s13 out) ∧ Aside0 (itemsL k (plainG G) (ss.drop j) out = some (r1, r2)))
      case atStart => exact ⟨0, [], Nat.zero_le _, by simp, by omega, rfl, HB, HG, HK, ⟨Kd.R_nil _ _ _ _ _⟩, ⟨by rw [List.drop_zero]; exact HF.out⟩⟩
      case round =>
        clear HB HG HK HF
        obtain ⟨j, out, hj, hol, hgj, rfl, HB, HG, HK, HO, HF⟩ := hrel
        have HLO : Aside0 ((out.length + 1) * 40 ≤ 140737488355328) := ⟨by have := HSZ.out; omega⟩
        by_cases hjl : j < ss.length
        · have hjz : (j : Int) < (ss.length : Int) := by omega
          obtain ⟨A1, c1, e1, hc1, hC1⟩ := Kd.R_reads HK.out
          injection e1 with e1 _ e2
          subst e1 e2
          obtain ⟨ad, e, h0⟩ := str_at hC1 j hjl hjl
          cases e
          obtain ⟨key, hkey⟩ : ∃ key, ss[j] = key := ⟨_, rfl⟩
          rw [hkey] at h0
          have hF := HF.out
          rw [List.drop_eq_getElem_cons hjl, itemsL, hkey, plain_row] at hF
          obtain ⟨b, hmy, hF⟩ := Option.bind_eq_some_iff.1 hF
          obtain ⟨vs, hvs⟩ : ∃ vs, rowG G key = vs := ⟨_, rfl⟩
          rw [hvs] at hmy hF
          have hval := HG.out.val key
          rw [hvs] at hval
          obtain ⟨A3, c3, hv3, hc3, hC3⟩ := Kd.R_reads hval
          have HV3 := Aside0.mk hv3
          rw [hv3] at hval
          have HC3 := Aside0.mk hc3
          have HCV := Aside0.mk hC3
          have HRV := Aside0.mk hval
          have HMY := Aside0.mk hmy
          have HF2 := Aside0.mk hF
          have HKZ : Aside0 (key.size ≤ 9223372036854775807) := ⟨by rw [← hkey]; exact HKK.out _ (List.getElem_mem hjl)⟩
          clear hkey hC1 hc1 hF hmy hvs hval hv3 hc3 hC3 HF
          cases b with
          | false =>
            have HF3 : Aside0 ([] = r1 ∧ (4 : Int) = r2) := ⟨by have e := HF2.out; rw [if_neg (by simp)] at e; exact ⟨(Prod.mk.inj (Option.some.inj e)).1, (Prod.mk.inj (Option.some.inj e)).2⟩⟩
            go_wp2_with (first | ((with_reducible refine gate_dst (N := 78) rfl ?_); go_must (refine grp_lookup rfl _ _ rfl rfl HG.out key rfl HKZ.out ?_); rw [HV3.out]) | ((with_reducible refine gate_dst (N := 16) rfl ?_); refine box_event ?hg (N := 16) ?hd (cs := #[.string ⟨#[]⟩, .slice none 0 0]) (t := 67) ?hr ?_; (case hd => rfl); (case hg => rfl); (case hr => first | (go_simp; done) | (go_simp; rfl)); intro g16 hg w21 hbox hb; have G16 := Aside0.mk (show w.heap.size ≤ g16 from (by rw [hg]; exact HB.out.size)); have NO := Aside0.mk (show Kd.R k67 67 w21 w.heap.size (fun k_ => k_ ≠ g16) u13 out from Kd.R_below (Kd.R_mono (Kd.R_bound HO.out) (fun k_ hk_ => by have := hk_.2.2.1; omega)) hb); have NV := Aside0.mk (Kd.R_below HRV.out hb); have B16 := Aside0.mk hbox; have NCV := Aside0.mk (Kd.C_below HCV.out hb); clear hbox hg HO HRV HCV h0; have r0_ := Aside0.mk (below_then HB.out HB.out.size hb); have r1_ := Aside0.mk (HG.out.below hb); have r2_ := Aside0.mk (Kd.R_below HK.out hb); clear HB HG HK; have HB := r0_; have HG := r1_; have HK := r2_; clear r0_ r1_ r2_; clear hb) | ((with_reducible refine gate_store (t := 67) (p := 16) (v := .tmp 79) rfl ?_); go_must (refine sagg_event rfl 67 (.tmp 16) (.tmp 79) rfl rfl g16 #[.string key, .slice A3 vs.length c3] _ _ rfl rfl B16.out (by kernel_rfl) rfl rfl ?_); intro w22 hbk hu; have NO2 := Aside0.mk (Kd.R_mono (Kd.R_step NO.out (fun k_ hk_ _ => hu.block k_ hk_)) (ok' := fun _ => True) (fun _ _ => trivial)); have NV2 := Aside0.mk (Kd.R_mono (Kd.R_step (Kd.R_types NV.out B16.out (by decide)) (fun k_ hk_ _ => hu.block k_ hk_.2)) (ok' := fun _ => True) (fun _ _ => trivial)); obtain ⟨A4, c4, hv4, hc4, hC4⟩ := Kd.R_reads NV2.out; obtain ⟨rfl, rfl⟩ : A3 = A4 ∧ c3 = c4 := (by simpa using hv4); have NCV2 := Aside0.mk hC4; clear NO NV NCV hc4 hC4; have r0_ := Aside0.mk (HG.out.typed B16.out (by decide) (row := some g16) (fun b e => by injection e with e; exact e.symm) ⟨hu.os, hu.tape, hu.output, by rw [hu.size]; exact Nat.le_refl _, fun k_ hk_ hne_ => hu.block k_ (fun e_ => hne_ (by rw [e_]))⟩); have r1_ := Aside0.mk (keys_kept HK.out (row := some g16) ⟨hu.os, hu.tape, hu.output, by rw [hu.size]; exact Nat.le_refl _, fun k_ hk_ hne_ => hu.block k_ (fun e_ => hne_ (by rw [e_]))⟩ (fun b e cells hc => by injection e with e; subst e; rw [B16.out] at hc; injection hc with hc; injection hc with _ hc; cases hc)); have r2_ := Aside0.mk (hu.below HB.out G16.out); clear HG HK HB; have HG := r0_; have HK := r1_; have HB := r2_; clear r0_ r1_ r2_; clear B16; have B16 := Aside0.mk hbk; have c160 := (blk_cell B16.out 0).trans rfl; have c161 := (blk_cell B16.out 1).trans rfl; clear hbk hu) | (go_at_call 53; go_must (refine (batch_may.calls k key A3 c3 vs false _ NCV2.out HC3.out HMY.out).mono ?_); rintro e w23 ⟨rfl, hb⟩; have NO3 := Aside0.mk (Kd.R_below NO2.out hb); have NV3 := Aside0.mk (Kd.R_below NV2.out hb); clear NO2 NV2 NCV2; have r0_ := Aside0.mk (below_then HB.out HB.out.size hb); have r1_ := Aside0.mk (HG.out.below hb); have r2_ := Aside0.mk (Kd.R_below HK.out hb); have r3_ := Aside0.mk ((hb.block _ (blk_lt B16.out)).trans B16.out); clear HB HG HK B16; have HB := r0_; have HG := r1_; have HK := r2_; have B16 := r3_; clear r0_ r1_ r2_ r3_; clear c160 c161; have c160 := (blk_cell B16.out 0).trans rfl; have c161 := (blk_cell B16.out 1).trans rfl; clear hb))
            go_ret2
            exact ⟨.slice none 0 0, by rw [← HF3.out.2] <;> rfl, by rw [← HF3.out.1]; exact Kd.R_nil _ _ _ _ _, HB.out⟩
          | true =>
            go_wp2_with (first | ((with_reducible refine gate_dst (N := 78) rfl ?_); go_must (refine grp_lookup rfl _ _ rfl rfl HG.out key rfl HKZ.out ?_); rw [HV3.out]) | ((with_reducible refine gate_dst (N := 16) rfl ?_); refine box_event ?hg (N := 16) ?hd (cs := #[.string ⟨#[]⟩, .slice none 0 0]) (t := 67) ?hr ?_; (case hd => rfl); (case hg => rfl); (case hr => first | (go_simp; done) | (go_simp; rfl)); intro g16 hg w21 hbox hb; have G16 := Aside0.mk (show w.heap.size ≤ g16 from (by rw [hg]; exact HB.out.size)); have NO := Aside0.mk (show Kd.R k67 67 w21 w.heap.size (fun k_ => k_ ≠ g16) u13 out from Kd.R_below (Kd.R_mono (Kd.R_bound HO.out) (fun k_ hk_ => by have := hk_.2.2.1; omega)) hb); have NV := Aside0.mk (Kd.R_below HRV.out hb); have B16 := Aside0.mk hbox; have NCV := Aside0.mk (Kd.C_below HCV.out hb); clear hbox hg HO HRV HCV h0; have r0_ := Aside0.mk (below_then HB.out HB.out.size hb); have r1_ := Aside0.mk (HG.out.below hb); have r2_ := Aside0.mk (Kd.R_below HK.out hb); clear HB HG HK; have HB := r0_; have HG := r1_; have HK := r2_; clear r0_ r1_ r2_; clear hb) | ((with_reducible refine gate_store (t := 67) (p := 16) (v := .tmp 79) rfl ?_); go_must (refine sagg_event rfl 67 (.tmp 16) (.tmp 79) rfl rfl g16 #[.string key, .slice A3 vs.length c3] _ _ rfl rfl B16.out (by kernel_rfl) rfl rfl ?_); intro w22 hbk hu; have NO2 := Aside0.mk (Kd.R_mono (Kd.R_step NO.out (fun k_ hk_ _ => hu.block k_ hk_)) (ok' := fun _ => True) (fun _ _ => trivial)); have NV2 := Aside0.mk (Kd.R_mono (Kd.R_step (Kd.R_types NV.out B16.out (by decide)) (fun k_ hk_ _ => hu.block k_ hk_.2)) (ok' := fun _ => True) (fun _ _ => trivial)); obtain ⟨A4, c4, hv4, hc4, hC4⟩ := Kd.R_reads NV2.out; obtain ⟨rfl, rfl⟩ : A3 = A4 ∧ c3 = c4 := (by simpa using hv4); have NCV2 := Aside0.mk hC4; clear NO NV NCV hc4 hC4; have r0_ := Aside0.mk (HG.out.typed B16.out (by decide) (row := some g16) (fun b e => by injection e with e; exact e.symm) ⟨hu.os, hu.tape, hu.output, by rw [hu.size]; exact Nat.le_refl _, fun k_ hk_ hne_ => hu.block k_ (fun e_ => hne_ (by rw [e_]))⟩); have r1_ := Aside0.mk (keys_kept HK.out (row := some g16) ⟨hu.os, hu.tape, hu.output, by rw [hu.size]; exact Nat.le_refl _, fun k_ hk_ hne_ => hu.block k_ (fun e_ => hne_ (by rw [e_]))⟩ (fun b e cells hc => by injection e with e; subst e; rw [B16.out] at hc; injection hc with hc; injection hc with _ hc; cases hc)); have r2_ := Aside0.mk (hu.below HB.out G16.out); clear HG HK HB; have HG := r0_; have HK := r1_; have HB := r2_; clear r0_ r1_ r2_; clear B16; have B16 := Aside0.mk hbk; have c160 := (blk_cell B16.out 0).trans rfl; have c161 := (blk_cell B16.out 1).trans rfl; clear hbk hu) | (go_at_call 53; go_must (refine (batch_may.calls k key A3 c3 vs true _ NCV2.out HC3.out HMY.out).mono ?_); rintro e w23 ⟨rfl, hb⟩; have NO3 := Aside0.mk (Kd.R_below NO2.out hb); have NV3 := Aside0.mk (Kd.R_below NV2.out hb); clear NO2 NV2 NCV2; have r0_ := Aside0.mk (below_then HB.out HB.out.size hb); have r1_ := Aside0.mk (HG.out.below hb); have r2_ := Aside0.mk (Kd.R_below HK.out hb); have r3_ := Aside0.mk ((hb.block _ (blk_lt B16.out)).trans B16.out); clear HB HG HK B16; have HB := r0_; have HG := r1_; have HK := r2_; have B16 := r3_; clear r0_ r1_ r2_ r3_; clear c160 c161; have c160 := (blk_cell B16.out 0).trans rfl; have c161 := (blk_cell B16.out 1).trans rfl; clear hb) | ((with_reducible refine gate_builtin (b := .append) (xs := #[.tmp 83, .tmp 85]) rfl ?_); at_builtin; have NVO := Aside0.mk (show Kd.R k80 80 _ w.heap.size (fun k_ => some k_ = Value.ownBlock (.slice A3 vs.length c3)) (.slice A3 vs.length c3) vs from Kd.R_flat (fun hd => k80_any hd) NV3.out (fun k_ hk_ _ => hk_.symm)); have NOK := Aside0.mk (fun (k_ : Nat) (hk_ : some k_ = Value.ownBlock (.slice A3 vs.length c3)) => show True ∧ some k_ ≠ u13.ownBlock from ⟨trivial, fun e_ => by obtain ⟨i_, o_⟩ := Kd.R_own NO3.out; obtain ⟨x_, h_⟩ := own_typed o_ k_ e_.symm; obtain ⟨j_, p_⟩ := Kd.R_own NV3.out; obtain ⟨y_, q_⟩ := own_typed p_ k_ hk_.symm; rw [h_] at q_; injection q_ with q_; injection q_ with _ q_; cases q_⟩); go_must (refine Kd.R_append k67 (w0 := w) w.heap.size rfl (.tmp 83) (.tmp 85) 53 67 (.agg #[(.string ⟨#[]⟩), (.slice none 0 0)]) 40 rfl Try.underlying53 info67 rfl (by decide) (by decide) u13 out (⟨key, vs⟩ : S67) [.string key, .slice A3 vs.length c3] (fun _ => True) _ rfl rfl (k67_mkM _ _ _ (⟨key, vs⟩ : S67) NVO.out) NOK.out (fun _ _ => trivial) NO3.out HB.out HB.out.size HLO.out ?_); intro v14 w24 ho hb hgr hat; have HG4 := Aside0.mk (HG.out.kept hgr (fun e_ => by obtain ⟨i_, o_⟩ := Kd.R_own NO3.out; obtain ⟨c_, h_⟩ := own_typed o_ w.heap.size e_.symm; obtain ⟨es_, cl_, m_⟩ := HG.out.map_obj; rw [m_] at h_; cases h_) (fun g_ hg_ b_ hb_ e_ => by obtain ⟨i_, o_⟩ := Kd.R_own NO3.out; obtain ⟨c_, h_⟩ := own_typed o_ b_ e_.symm; obtain ⟨d_, k_⟩ := HG.out.own_block hg_ hb_; rw [k_] at h_; injection h_ with h_; injection h_ with _ h_; cases h_)); have HK4 := Aside0.mk (keys_kept HK.out hgr (fun b_ e_ cells_ hc_ => by obtain ⟨i_, o_⟩ := Kd.R_own NO3.out; obtain ⟨c_, h_⟩ := own_typed o_ b_ e_; rw [h_] at hc_; injection hc_ with hc_; injection hc_ with _ hc_; cases hc_)); clear HB HG HK B16 c160 c161 NVO NOK; have HB := Aside0.mk hb; have HG := HG4; have HK := HK4; have HO := Aside0.mk ho; clear ho hb hgr hat HG4 HK4))
            go_wp2
            go_roundg (ss.length - (j + 1))
            case measure => omega
            case rel => exact ⟨j + 1, out ++ [⟨key, vs⟩], by omega, by simp; omega, by omega, by go_num, HB, HG, HK, HO, ⟨by have e := HF2.out; rw [if_pos (by trivial)] at e; exact e⟩⟩
        · have hjz : ¬ (j : Int) < (ss.length : Int) := by omega
          have HF2 : Aside0 (out = r1 ∧ (0 : Int) = r2) := ⟨by have e := HF.out; rw [List.drop_of_length_le (by omega), itemsL] at e; exact ⟨(Prod.mk.inj (Option.some.inj e)).1, (Prod.mk.inj (Option.some.inj e)).2⟩⟩
          go_wp2
          go_ret2
          exact ⟨_, by rw [← HF2.out.2] <;> rfl, by rw [← HF2.out.1]; exact HO.out, HB.out⟩
end Go.Proofs.Ytehcmedeeaoebaa.PB
end
section
namespace Go.Proofs.Ytehcmedeeaoebaa.PB
open Go.RowKit Go.Proofs.YtehcmedeeaoebaaW.PrintWords Go.Proofs.YtehcmedeeaoebaaW.PrintLast Go.Proofs.YtehcmedeeaoebaaW.PrintMore
attribute [local go_sem] max2_int min2_int max_two min_two max_three min_three max_four min_four
set_option linter.unusedVariables false
set_option linter.unusedSimpArgs false
def cmp_isNaN_string.f (a0 : ByteArray) : Option (Bool) := some (a0.toList != a0.toList)
set_option maxHeartbeats 8000000 in
set_option maxRecDepth 100000 in
theorem cmp_isNaN_string.calls (a0 : ByteArray) (r : Bool) (w : World) (h : cmp_isNaN_string.f a0 = some r) :
    Calls Try.prog 75 #[.string a0] w fun e w' => e = .returned (.bool r) ∧ Drawn0 w w' := by
  have H : (some (a0.toList != a0.toList)) = some r := h
  clear h
  obtain rfl := Option.some.inj H
  go_enter Try.func75, Try.ntmps75
  go_wp2
  go_ret
  exact ⟨by first | rfl | (simp; done) | (simp [*]; done), by repeat (first | exact Drawn0.refl _ | apply Drawn0.step)⟩
end Go.Proofs.Ytehcmedeeaoebaa.PB
end
section
namespace Go.Proofs.Ytehcmedeeaoebaa.PB
open Go.RowKit Go.Proofs.YtehcmedeeaoebaaW.PrintWords Go.Proofs.YtehcmedeeaoebaaW.PrintLast Go.Proofs.YtehcmedeeaoebaaW.PrintMore
set_option linter.unusedVariables false
set_option linter.unusedSimpArgs false
instance : Inhabited S69 := ⟨⟨⟨#[]⟩, ⟨#[]⟩⟩⟩
def cmpS (a b : ByteArray) : Int := if ltS a b then -1 else if ltS b a then 1 else 0
theorem ltS_iff (a b : ByteArray) : ltS a b = true ↔ a.data.toList < b.data.toList := by
  unfold ltS; rw [bytesLess_eq, Lib.toList_data, Lib.toList_data]; simp
theorem ltS_false (a b : ByteArray) : ltS a b = false ↔ b.data.toList ≤ a.data.toList := by
  rw [← Bool.not_eq_true, ltS_iff, List.not_lt]
theorem ltS_trans {a b c : ByteArray} (h1 : ltS a b = true) (h2 : ltS b c = true) : ltS a c = true := by
  rw [ltS_iff] at *; exact List.lt_trans h1 h2
theorem ltS_irrefl (a : ByteArray) : ltS a a = false := by rw [ltS_false]; exact List.le_refl _
theorem ltS_asymm {a b : ByteArray} (h : ltS a b = true) : ltS b a = false := by
  rw [ltS_false]; rw [ltS_iff] at h; exact List.le_of_lt h
theorem ltS_ntrans {a b c : ByteArray} (h1 : ltS a b = false) (h2 : ltS b c = false) : ltS a c = false := by
  rw [ltS_false] at *; exact List.le_trans h2 h1
theorem ltS_eq {a b : ByteArray} (h1 : ltS a b = false) (h2 : ltS b a = false) : a = b := by
  rw [ltS_false] at *; exact ByteArray.ext (Array.toList_inj.1 (List.le_antisymm h2 h1))
def cmpP (x y : S69) : Int := cmpS x.f0 y.f0
theorem cmpP_lt (x y : S69) : Go.Proofs.ltOf cmpP x y = ltS x.f0 y.f0 := by
  unfold Go.Proofs.ltOf cmpP cmpS
  cases h1 : ltS x.f0 y.f0
  · cases h2 : ltS y.f0 x.f0 <;> simp
  · simp
theorem swoP : Go.Sort.SWO (Go.Proofs.ltOf cmpP) where
  irrefl x := by rw [cmpP_lt]; exact ltS_irrefl _
  trans x y z h1 h2 := by rw [cmpP_lt] at *; exact ltS_trans h1 h2
  ntrans x y z h1 h2 := by rw [cmpP_lt] at *; exact ltS_ntrans h1 h2
theorem isNaNS.calls (a : ByteArray) (W : World) : Calls Try.prog 75 #[.string a] W fun e w' => e = .returned (.bool false) ∧ w' = W := by
  go_enter Try.func75, Try.ntmps75
  go_wp2
  go_ret
  exact ⟨by simp, rfl⟩
theorem compareS.calls (x y : ByteArray) (W : World) : Calls Try.prog 57 #[.string x, .string y] W fun e w' => e = .returned (.int .i64 (cmpS x y)) ∧ w' = W := by
  have hn := isNaNS.calls
  by_cases h1 : ltS x y = true
  · have e1 : Op.bytesLess x.toList y.toList = true := h1
    go_enter Try.func57, Try.ntmps57
    go_wp2_with (go_at_call 75; refine (hn _ _).mono ?_; rintro e w' ⟨rfl, rfl⟩)
    go_ret
    exact ⟨by simp [cmpS, h1], rfl⟩
  · have h1' : ltS x y = false := by simpa using h1
    have e1 : Op.bytesLess x.toList y.toList = false := h1'
    by_cases h2 : ltS y x = true
    · have hne : (x.toList == y.toList) = false := by
        rw [beq_eq_false_iff_ne]; intro h
        have : Op.bytesLess y.toList x.toList = true := h2
        rw [h] at this e1; rw [this] at e1; cases e1
      go_enter Try.func57, Try.ntmps57
      go_wp2_with (go_at_call 75; refine (hn _ _).mono ?_; rintro e w' ⟨rfl, rfl⟩)
      go_ret
      exact ⟨by simp [cmpS, h1', h2], rfl⟩
    · have h2' : ltS y x = false := by simpa using h2
      have hxy := ltS_eq h1' h2'
      subst hxy
      clear h1 h1' h2 h2'
      go_enter Try.func57, Try.ntmps57
      go_wp2_with (go_at_call 75; refine (hn _ _).mono ?_; rintro e w' ⟨rfl, rfl⟩)
      go_ret
      exact ⟨by simp [cmpS, ltS_irrefl], rfl⟩
def encP (x : S69) : List Value := [.string x.f0, .string x.f1]
set_option maxHeartbeats 1000000 in
theorem pairs1.calls (x y : S69) (W : World) : Calls Try.prog 56 #[.agg #[.string x.f0, .string x.f1], .agg #[.string y.f0, .string y.f1]] W fun e w' => e = .returned (.int .i64 (cmpP x y)) ∧ ∃ q os', w' = Go.Sort.grow (W.drewN q) os' := by
  have hcon := fun W' => compareS.calls x.f0 y.f0 W'
  unfold cmpP
  generalize cmpS x.f0 y.f0 = r at hcon ⊢
  go_enter Try.func56, Try.ntmps56
  go_wp2_with (go_at_call 57; refine (hcon _).mono ?_; rintro e w' ⟨rfl, rfl⟩)
  go_ret
  exact ⟨rfl, 0, _, by rw [Go.Sort.alloc_eq_grow, Go.Sort.alloc_eq_grow, Go.Sort.grow_grow]; rfl⟩
theorem cmpLaysP (blk off size : Nat) (w : World) : Go.Proofs.CmpLays Try.prog 56 #[] encP 2 cmpP blk off size w :=
  fun _ _ _ _ x y => pairs1.calls x y _
def sortP (xs : List S69) : List S69 := if xs = [] then [] else (Go.Sort.pdq (Go.Proofs.ltOf cmpP) xs.toArray 0 xs.toArray.size (Go.Lib.bitLen xs.toArray.size) true true).toList
theorem sortP_spec (xs : List S69) : (sortP xs).Perm xs ∧ (sortP xs).Pairwise fun a b => ltS b.f0 a.f0 = false := by
  unfold sortP
  split
  · next h => subst h; simp
  next hne =>
  have h := Go.Sort.pdq_sorts (Go.Proofs.ltOf cmpP) swoP xs.toArray 0 xs.toArray.size (Go.Lib.bitLen xs.toArray.size) true true (Nat.zero_le _) (Nat.le_refl _) (Or.inl rfl)
  generalize Go.Sort.pdq (Go.Proofs.ltOf cmpP) xs.toArray 0 xs.toArray.size (Go.Lib.bitLen xs.toArray.size) true true = d at h ⊢
  obtain ⟨⟨hs, -, hp⟩, ho⟩ := h
  refine ⟨?_, ?_⟩
  · have : d.extract 0 xs.toArray.size = d := by rw [← hs]; simp
    rw [this] at hp
    simpa using hp
  · rw [List.pairwise_iff_getElem]
    intro i j hi hj hij
    have := ho i j (Nat.zero_le _) hij (by rw [← hs]; simpa using hj)
    rw [cmpP_lt] at this
    rw [getElem!_pos d j (by simpa using hj), getElem!_pos d i (by simpa using hi)] at this
    simpa using this
open Go.Sort in
theorem flat_at (d : Array S69) (t : Nat) (h : t < d.size * 2) : (flatK encP 2 d)[t]! = (encP d[t / 2]!)[t % 2]! := get_flatK encP 2 d t h
open Go.Sort in
theorem R_cells {w : World} {base : Nat} {ok : Nat → Prop} {v : Value} {xs : List S69} (h : Kd.R k69 69 w base ok v xs) (hne : xs ≠ []) :
    ∃ g cap cur, v = .slice (some ⟨g, 0, none⟩) xs.length cap ∧ base ≤ g ∧ w.heap[g]? = some (.cells cur 69 (0, 0)) ∧ xs.length ≤ cap ∧ cap ≤ maxLen ∧ cur.size = cap * 2 ∧ cur.toList.take (xs.length * 2) = (flatK encP 2 xs.toArray).toList ∧ ok g := by
  obtain ⟨hok, inner, ⟨hl, hor⟩, hr⟩ := h
  rcases hor with ⟨_, h0⟩ | ⟨g, cap, cur, rfl, hb, hg, h1, h2, h3, h4⟩
  · exact absurd (List.eq_nil_of_length_eq_zero h0) hne
  refine ⟨g, cap, cur, rfl, hb, hg, h1, h2, h3, ?_, hok g rfl⟩
  rw [show Kd.sz k69 = 2 from rfl] at *
  rw [h4]
  refine List.ext_getElem (by simp [hl]) fun t ht1 ht2 => ?_
  have ht : t < xs.length * 2 := by rw [← hl]; exact ht1
  have hj : t / 2 < xs.length := by omega
  have hp := k69_openM (hr.2 (t / 2) _ (List.getElem?_eq_getElem hj))
  have e1 : inner[t]? = (((inner.drop (t / 2 * 2)).take 2))[t % 2]? := by
    rw [List.getElem?_take, if_pos (by omega), List.getElem?_drop]; congr 1; omega
  have hf := flat_at xs.toArray t (by simpa using ht)
  rw [getElem!_pos (flatK encP 2 xs.toArray) t (by simpa using ht)] at hf
  refine Eq.trans ?_ (show _ = (flatK encP 2 xs.toArray).toList[t] from hf.symm)
  apply Option.some.inj
  rw [← List.getElem?_eq_getElem ht1, e1]
  replace hp : List.take 2 (List.drop (t / 2 * 2) inner) = [.string xs[t / 2].f0, .string xs[t / 2].f1] := hp
  rw [hp]
  rw [getElem!_pos xs.toArray (t / 2) (by simpa using hj)]
  rcases (show t % 2 = 0 ∨ t % 2 = 1 by omega) with e | e <;> rw [e] <;> simp [encP]
open Go.Sort in
theorem R_sorted {w : World} {base : Nat} {ok : Nat → Prop} {xs ys : List S69} {g cap : Nat} (h : Kd.R k69 69 w base ok (.slice (some ⟨g, 0, none⟩) xs.length cap) xs) (hne : xs ≠ []) (hy : ys.length = xs.length) (m : Nat) (os : Array Obj) :
    Kd.R k69 69 (sortWorldK encP 2 w g 0 m ys.toArray os) base ok (.slice (some ⟨g, 0, none⟩) xs.length cap) ys ∧ Below base w (sortWorldK encP 2 w g 0 m ys.toArray os) := by
  obtain ⟨g', cap', cur, hv, hb, hg, h1, h2, h3, h4, h5⟩ := R_cells h hne
  injection hv with ha _ hc
  injection ha with ha; injection ha with ha
  subst ha hc
  have hgl := blk_lt hg
  have hblk : (sortWorldK encP 2 w g 0 m ys.toArray os).heap[g]? = some (.cells (putCells id 0 (flatK encP 2 ys.toArray) cur) 69 (0, 0)) := by
    unfold sortWorldK grow putRowK putRow mapBlock Go.Sort.ahead
    simp only
    rw [Array.getElem?_append_left (by simpa using hgl), Array.getElem?_modify, if_pos rfl, hg]
    rfl
  refine ⟨⟨fun k hk => by simp only [Value.ownBlock, Option.some.injEq] at hk; subst hk; exact h5, (flatK encP 2 ys.toArray).toList, ⟨by simp [hy]; rfl, Or.inr ⟨g, cap, _, by rw [hy], hb, hblk, by omega, h2, by simp [putCells, h3]; rfl, ?_⟩⟩, ⟨by simp; rfl, ?_⟩⟩, ⟨rfl, rfl, rfl, by unfold sortWorldK grow putRowK putRow mapBlock Go.Sort.ahead; simp, fun k hk => ?_⟩⟩
  · rw [hy, show Kd.sz k69 = 2 from rfl]
    refine List.ext_getElem (by simp [putCells, h3, hy]; omega) fun t ht1 ht2 => ?_
    have ht : t < ys.length * 2 := by simpa using ht2
    rw [List.getElem_take, Array.getElem_toList, Array.getElem_toList]
    simp only [putCells, Array.getElem_mapIdx, size_flatK, Nat.zero_le, true_and, Nat.zero_add, Nat.sub_zero, id]
    rw [if_pos (by simpa using ht), getElem!_pos (flatK encP 2 ys.toArray) t (by simpa using ht)]
  · intro j p hj
    have hjl : j < ys.length := (List.getElem?_eq_some_iff.1 hj).1
    have e : ((flatK encP 2 ys.toArray).toList.drop (j * 2)).take 2 = [.string p.f0, .string p.f1] := by
      have hp : ys.toArray[j]! = p := by rw [getElem!_pos ys.toArray j (by simpa using hjl)]; simpa using (List.getElem?_eq_some_iff.1 hj).2
      refine List.ext_getElem (by simp; omega) fun t ht1 ht2 => ?_
      have ht : t < 2 := by simpa using ht2
      rw [List.getElem_take, List.getElem_drop, Array.getElem_toList]
      have hf := flat_at ys.toArray (j * 2 + t) (by simp; omega)
      rw [getElem!_pos (flatK encP 2 ys.toArray) (j * 2 + t) (by simp; omega), show (j * 2 + t) / 2 = j by omega, show (j * 2 + t) % 2 = t by omega, hp] at hf
      rw [hf]
      rcases (show t = 0 ∨ t = 1 by omega) with e | e <;> subst e <;> simp [encP]
    rw [show Kd.sz k69 = 2 from rfl, e]
    exact k69_mkM _ _ _ _
  · unfold sortWorldK grow putRowK putRow mapBlock Go.Sort.ahead
    simp only
    have : k < w.heap.size := by omega
    rw [Array.getElem?_append_left (by simpa using this), Array.getElem?_modify, if_neg (by omega)]
set_option maxHeartbeats 2000000 in
theorem SortFunc69.calls (base : Nat) (ok : Nat → Prop) (v : Value) (xs : List S69) (w : World) (hR : Kd.R k69 69 w base ok v xs) (hn : xs.length < 4611686018427387904) :
    Calls Try.prog 55 #[v, .func (.func 56) #[] #[]] w fun e w' => e = .returned (.tuple #[]) ∧ Kd.R k69 69 w' base ok v (sortP xs) ∧ Below base w w' := by
  by_cases hne : xs = []
  · subst hne
    obtain ⟨A, c, rfl⟩ := Kd.R_slice hR
    refine (Go.Proofs.AnyF.slices_SortFunc_none Try.sortPair A c _ w).mono ?_
    rintro e w' ⟨rfl, rfl⟩
    exact ⟨rfl, by unfold sortP; rw [if_pos rfl]; exact hR, Below.refl _ _⟩
  obtain ⟨g, cap, cur, rfl, hb, hg, h1, h2, h3, h4, h5⟩ := R_cells hR hne
  have hH : Go.Sort.HoldsK encP 2 w g 0 xs.toArray := by
    intro j hj
    have hj' : j < xs.length * 2 := by simpa using hj
    refine ⟨?_, blk_frozen hg _⟩
    rw [Nat.zero_add, blk_cell hg]
    have e : cur[j]? = (cur.toList.take (xs.length * 2))[j]? := by rw [List.getElem?_take, if_pos hj']; simp
    rw [e, h4, Array.getElem?_toList, Array.getElem?_eq_getElem (by simpa using hj), getElem!_pos _ j (by simpa using hj)]; rfl
  have eg : ∀ args w, (callFunc 56 args).run Try.prog w = .ok (.enter 56 args) w := enters_of Try.func56 (by kernel_rfl) rfl
  have hcon := Go.Proofs.AnyQ.slices_SortFunc_eq Try.sortPair 2 Try.isAgg69 Try.sizeOf69 encP (fun _ => rfl) (fun x v hv => by simp [encP] at hv; rcases hv with rfl | rfl <;> rfl) cmpP swoP 56 #[] g 0 cap xs.toArray w eg (cmpLaysP _ _ _ _) hH (blk_lt hg) (by simpa using hn)
  refine Calls.mono (show Calls Try.prog 55 _ _ _ from hcon) ?_
  rintro e w' ⟨rfl, n, os, rfl⟩
  have hy : (sortP xs).length = xs.length := (sortP_spec xs).1.length_eq
  have := R_sorted hR hne hy n os
  have e : (sortP xs).toArray = Go.Sort.pdq (Go.Proofs.ltOf cmpP) xs.toArray 0 xs.toArray.size (Go.Lib.bitLen xs.toArray.size) true true := by unfold sortP; rw [if_neg hne]
  rw [e] at this
  exact ⟨rfl, this⟩
end Go.Proofs.Ytehcmedeeaoebaa.PB
end
section
namespace Go.Proofs.Ytehcmedeeaoebaa.PB
open Go.RowKit Go.Proofs.YtehcmedeeaoebaaW.PrintWords Go.Proofs.YtehcmedeeaoebaaW.PrintLast Go.Proofs.YtehcmedeeaoebaaW.PrintMore
set_option linter.unusedVariables false
theorem u8_lt {a b : Int} (ha : 0 ≤ a ∧ a < 256) (hb : 0 ≤ b ∧ b < 256) (h : a < b) : UInt8.ofNat a.toNat < UInt8.ofNat b.toNat := by
  rw [UInt8.lt_iff_toNat_lt, UInt8.toNat_ofNat', UInt8.toNat_ofNat']
  omega
theorem lex_step {a b : Int} {xs ys : List UInt8} (ha : 0 ≤ a ∧ a < 256) (hb : 0 ≤ b ∧ b < 256) (h : a < b ∨ (a = b ∧ xs < ys)) : UInt8.ofNat a.toNat :: xs < UInt8.ofNat b.toNat :: ys := by
  rw [List.cons_lt_cons_iff]
  rcases h with h | ⟨rfl, h⟩
  · exact Or.inl (u8_lt ha hb h)
  · exact Or.inr ⟨rfl, h⟩
theorem bytesU_lt {u v : Int} (h0 : 0 ≤ u) (h : u < v) (h1 : v < 18446744073709551616) : bytesU u < bytesU v := by
  unfold bytesU
  rw [show u % 18446744073709551616 = u by omega, show v % 18446744073709551616 = v by omega, bytes8_list, bytes8_list]
  simp only [List.map_cons, List.map_nil]
  by_cases c7 : u / 72057594037927936 < v / 72057594037927936
  · exact lex_step (by omega) (by omega) (Or.inl (by omega))
  refine lex_step (by omega) (by omega) (Or.inr ⟨by omega, ?_⟩)
  have e7 : u / 72057594037927936 = v / 72057594037927936 := by omega
  by_cases c6 : u / 281474976710656 % 256 < v / 281474976710656 % 256
  · exact lex_step (by omega) (by omega) (Or.inl (by omega))
  have e6 : u / 281474976710656 % 256 = v / 281474976710656 % 256 := by omega
  refine lex_step (by omega) (by omega) (Or.inr ⟨by omega, ?_⟩)
  by_cases c5 : u / 1099511627776 % 256 < v / 1099511627776 % 256
  · exact lex_step (by omega) (by omega) (Or.inl (by omega))
  have e5 : u / 1099511627776 % 256 = v / 1099511627776 % 256 := by omega
  refine lex_step (by omega) (by omega) (Or.inr ⟨by omega, ?_⟩)
  by_cases c4 : u / 4294967296 % 256 < v / 4294967296 % 256
  · exact lex_step (by omega) (by omega) (Or.inl (by omega))
  have e4 : u / 4294967296 % 256 = v / 4294967296 % 256 := by omega
  refine lex_step (by omega) (by omega) (Or.inr ⟨by omega, ?_⟩)
  by_cases c3 : u / 16777216 % 256 < v / 16777216 % 256
  · exact lex_step (by omega) (by omega) (Or.inl (by omega))
  have e3 : u / 16777216 % 256 = v / 16777216 % 256 := by omega
  refine lex_step (by omega) (by omega) (Or.inr ⟨by omega, ?_⟩)
  by_cases c2 : u / 65536 % 256 < v / 65536 % 256
  · exact lex_step (by omega) (by omega) (Or.inl (by omega))
  have e2 : u / 65536 % 256 = v / 65536 % 256 := by omega
  refine lex_step (by omega) (by omega) (Or.inr ⟨by omega, ?_⟩)
  by_cases c1 : u / 256 % 256 < v / 256 % 256
  · exact lex_step (by omega) (by omega) (Or.inl (by omega))
  have e1 : u / 256 % 256 = v / 256 % 256 := by omega
  refine lex_step (by omega) (by omega) (Or.inr ⟨by omega, ?_⟩)
  exact lex_step (by omega) (by omega) (Or.inl (by omega))
theorem pk_list (key : ByteArray) (t : Int) (h0 : 0 ≤ t) (h1 : t ≤ 1152921504606846976) : (pairKey key t).data.toList = key.data.toList ++ bytesU (1152921504606846976 - t) := by
  unfold pairKey bytesU
  rw [strOfNums_data, List.map_append, show (1152921504606846976 - t) % 18446744073709551616 = 1152921504606846976 - t by omega]
  congr 1
  have := congrArg (fun s : ByteArray => s.data.toList) (strOfNums_bytesOf key)
  simp only [strOfNums_data] at this
  exact this
theorem pk_size (key : ByteArray) (t : Int) (h0 : 0 ≤ t) (h1 : t ≤ 1152921504606846976) : (pairKey key t).size = key.size + 8 := by
  have := congrArg List.length (pk_list key t h0 h1)
  rw [List.length_append, bytesU_length] at this
  simpa using this
theorem pk_inj {k1 k2 : ByteArray} {t1 t2 : Int} (h1 : 0 ≤ t1) (h1' : t1 ≤ 1152921504606846976) (h2 : 0 ≤ t2) (h2' : t2 ≤ 1152921504606846976) (h : pairKey k1 t1 = pairKey k2 t2) : k1 = k2 ∧ t1 = t2 := by
  have e := congrArg (fun s : ByteArray => s.data.toList) h
  simp only [pk_list _ _ h1 h1', pk_list _ _ h2 h2'] at e
  obtain ⟨e1, e2⟩ := List.append_inj' e (by rw [bytesU_length, bytesU_length])
  refine ⟨ByteArray.ext (Array.toList_inj.1 e1), ?_⟩
  rcases (show t1 < t2 ∨ t1 = t2 ∨ t2 < t1 by omega) with h | h | h
  · have := bytesU_lt (u := 1152921504606846976 - t2) (v := 1152921504606846976 - t1) (by omega) (by omega) (by omega)
    rw [e2] at this
    exact absurd this (List.lt_irrefl _)
  · exact h
  · have := bytesU_lt (u := 1152921504606846976 - t1) (v := 1152921504606846976 - t2) (by omega) (by omega) (by omega)
    rw [e2] at this
    exact absurd this (List.lt_irrefl _)
theorem append_lt {l a b : List UInt8} (h : a < b) : l ++ a < l ++ b := by
  induction l with
  | nil => exact h
  | cons x l ih => rw [List.cons_append, List.cons_append, List.cons_lt_cons_iff]; exact Or.inr ⟨rfl, ih⟩
theorem pk_lt {key : ByteArray} {t1 t2 : Int} (h2 : 0 ≤ t2) (h : t2 < t1) (h1 : t1 ≤ 1152921504606846976) : ltS (pairKey key t1) (pairKey key t2) = true := by
  rw [ltS_iff, pk_list _ _ (by omega) h1, pk_list _ _ h2 (by omega)]
  exact append_lt (bytesU_lt (by omega) (by omega) (by omega))
def pairOf (key : ByteArray) (v : S80) : S69 := ⟨pairKey key v.f0, pairVal v⟩
def okV (v : S80) : Prop := 1 ≤ v.f0 ∧ v.f0 ≤ 1152921504606846976 ∧ v.f1.size ≤ 199 ∧ (v.f2 = true → v.f1 = ⟨#[]⟩)
theorem pairVal_size (v : S80) : (pairVal v).size = if v.f2 = true then 1 else 1 + v.f1.size := by
  unfold pairVal
  cases v.f2
  · simp only [Bool.false_eq_true, if_false]; rw [size_app]; rfl
  · rfl
theorem versionP_pair (key : ByteArray) (v : S80) (hv : okV v) : versionP (pairOf key v) = some (key, v) := by
  obtain ⟨h1, h2, h3, h4⟩ := hv
  have hks := pk_size key v.f0 (by omega) h2
  have hl := pk_list key v.f0 (by omega) h2
  have hvs : 1 ≤ (pairVal v).size := by rw [pairVal_size]; split <;> omega
  have hb : bt (pairVal v) 0 = if v.f2 = true then 0 else 1 := by
    have : (pairVal v).data.toList = (if v.f2 = true then [0] else 1 :: v.f1.data.toList) := by
      unfold pairVal
      cases v.f2
      · simp only [Bool.false_eq_true, if_false, ByteArray.data_append, Array.toList_append]; rfl
      · rfl
    cases hf : v.f2 with
    | true =>
      rw [hf, if_pos rfl] at this
      have := (frm_cons (s := pairVal v) (p := 0) (b := 0) (rest := []) (by unfold frm; rw [List.drop_zero]; exact this)).2.1
      rw [if_pos rfl]; exact this
    | false =>
      rw [hf, if_neg (by simp)] at this
      have := (frm_cons (s := pairVal v) (p := 0) (b := 1) (rest := v.f1.data.toList) (by unfold frm; rw [List.drop_zero]; exact this)).2.1
      rw [if_neg (by simp)]; exact this
  have htail : ((pairKey key v.f0).extract (((pairKey key v.f0).size : Int) - 8).toNat (pairKey key v.f0).size).data.toList = bytesU (1152921504606846976 - v.f0) := by
    rw [ByteArray.data_extract, Array.toList_extract, List.extract_eq_take_drop, hl, hks, show ((((key.size + 8 : Nat) : Int) - 8).toNat) = key.size by omega]
    have e : key.data.toList.length = key.size := by simp
    rw [List.drop_append_of_le_length (by omega), ← e, List.drop_length, List.nil_append, List.take_of_length_le (by rw [bytesU_length]; omega)]
  have hhead : (pairKey key v.f0).extract 0 (((pairKey key v.f0).size : Int) - 8).toNat = key := by
    apply ByteArray.ext
    apply Array.toList_inj.1
    rw [ByteArray.data_extract, Array.toList_extract, List.extract_eq_take_drop, hl, hks, show ((((key.size + 8 : Nat) : Int) - 8).toNat) = key.size by omega, List.drop_zero]
    have e : key.data.toList.length = key.size := by simp
    rw [Nat.sub_zero, ← e, List.take_left]
  have ht : wrap64 (be (bytesOf ((pairKey key v.f0).extract (((pairKey key v.f0).size : Int) - 8).toNat (pairKey key v.f0).size))) = 1152921504606846976 - v.f0 := by
    have hbb : bytesOf ((pairKey key v.f0).extract (((pairKey key v.f0).size : Int) - 8).toNat (pairKey key v.f0).size) = bytes8 (1152921504606846976 - v.f0) := by
      unfold bytesOf
      rw [htail]
      unfold bytesU
      rw [show (1152921504606846976 - v.f0) % 18446744073709551616 = 1152921504606846976 - v.f0 by omega, bytes8_list]
      simp only [List.map_cons, List.map_nil, UInt8.toNat_ofNat']
      simp only [List.cons.injEq, and_true]
      refine ⟨by omega, by omega, by omega, by omega, by omega, by omega, by omega, by omega⟩
    rw [hbb, be_bytes8 _ (by omega) (by omega), w64 (by omega) (by omega)]
  have hval : (pairVal v).extract 1 (pairVal v).size = v.f1 := by
    apply ByteArray.ext
    apply Array.toList_inj.1
    cases hf : v.f2 with
    | true => rw [h4 hf]; unfold pairVal; rw [hf]; rfl
    | false =>
      unfold pairVal
      rw [hf]
      simp only [Bool.false_eq_true, if_false]
      rw [ByteArray.data_extract, Array.toList_extract, List.extract_eq_take_drop, size_app, ByteArray.data_append, Array.toList_append]
      have e : v.f1.data.toList.length = v.f1.size := by simp
      show List.take ((1 + v.f1.size) - 1) (List.drop 1 (1 :: v.f1.data.toList)) = _
      rw [List.drop_succ_cons, List.drop_zero, List.take_of_length_le (by omega)]
  unfold versionP pairOf
  simp only
  rw [if_neg (by omega), if_neg (by rw [hb]; split <;> omega), if_neg (by rw [ht]; omega), ht, hhead, hval, hb]
  have e1 : 1152921504606846976 - (1152921504606846976 - v.f0) = v.f0 := by omega
  rw [e1]
  cases hf : v.f2
  · cases v; simp_all
  · cases v; simp_all
end Go.Proofs.Ytehcmedeeaoebaa.PB
end
section
namespace Go.Proofs.Ytehcmedeeaoebaa.PB
open Go.ChangeAt Go.Joins Go.Deep Go.WideShapes Go.ChangeShapes
open Go.RowKit Go.Proofs.YtehcmedeeaoebaaW.PrintWords Go.Proofs.YtehcmedeeaoebaaW.PrintLast Go.Proofs.YtehcmedeeaoebaaW.PrintMore
def Opens (W : World) {α : Type} (t : TypeId) (d : Kd α) : Prop :=
  ∀ (H : Type) (enc : TypeId × Value → H) (n : Nat) (cs : List Value) (x : DataW H × List MemPlace), DataW.trod enc Try.prog W 0 (fun _ => true) true n t cs = some x → ∃ a, d.K W a cs
theorem c4 : Try.prog.cellsOf 4 = 1 := by kernel_rfl
theorem c3 : Try.prog.cellsOf 3 = 1 := by kernel_rfl
theorem c9 : Try.prog.cellsOf 9 = 1 := by kernel_rfl
theorem c22 : Try.prog.cellsOf 22 = 1 := by kernel_rfl
theorem c65 : Try.prog.cellsOf 65 = 1 := by kernel_rfl
theorem c52 : Try.prog.cellsOf 52 = 3 := by kernel_rfl
theorem c69 : Try.prog.cellsOf 69 = 2 := by kernel_rfl
theorem c80 : Try.prog.cellsOf 80 = 3 := by kernel_rfl
theorem c67 : Try.prog.cellsOf 67 = 2 := by kernel_rfl
theorem c24 : Try.prog.cellsOf 24 = 2 := by kernel_rfl
theorem len2 {α : Type} {l : List α} (h : l.length = 2) : ∃ a b, l = [a, b] := by
  match l, h with
  | [a, b], _ => exact ⟨a, b, rfl⟩
theorem len3 {α : Type} {l : List α} (h : l.length = 3) : ∃ a b c, l = [a, b, c] := by
  match l, h with
  | [a, b, c], _ => exact ⟨a, b, c, rfl⟩
theorem opens52 (W : World) : Opens W 52 k52 := by
  intro H enc n cs x h
  obtain ⟨y0, y1, y2, m, _, hl, h0, h1, h2⟩ := trod_struct3 Try.underlying52 h
  obtain ⟨a, b, c, rfl⟩ := len3 (hl.trans c52)
  obtain ⟨s0, e0, _⟩ := DataW.trod_string Try.underlying9 h0
  obtain ⟨s1, e1, _⟩ := DataW.trod_string Try.underlying9 h1
  obtain ⟨s2, e2, _⟩ := DataW.trod_bool Try.underlying4 h2
  simp only [c9, c4, List.drop_zero, List.drop_succ_cons, List.take_succ_cons, List.take_zero, List.cons.injEq, and_true] at e0 e1 e2
  subst e0 e1 e2
  exact ⟨⟨s0, s1, s2⟩, k52_mk W _⟩
theorem opens69 (W : World) : Opens W 69 k69 := by
  intro H enc n cs x h
  obtain ⟨y0, y1, m, _, hl, h0, h1⟩ := trod_struct2 Try.underlying69 h
  obtain ⟨a, b, rfl⟩ := len2 (hl.trans c69)
  obtain ⟨s0, e0, _⟩ := DataW.trod_string Try.underlying9 h0
  obtain ⟨s1, e1, _⟩ := DataW.trod_string Try.underlying9 h1
  simp only [c9, List.drop_zero, List.drop_succ_cons, List.take_succ_cons, List.take_zero, List.cons.injEq, and_true] at e0 e1
  subst e0 e1
  exact ⟨⟨s0, s1⟩, k69_mk W _⟩
theorem opens80 (W : World) : Opens W 80 k80 := by
  intro H enc n cs x h
  obtain ⟨y0, y1, y2, m, _, hl, h0, h1, h2⟩ := trod_struct3 Try.underlying80 h
  obtain ⟨a, b, c, rfl⟩ := len3 (hl.trans c80)
  obtain ⟨s0, e0, _⟩ := DataW.trod_int Try.underlying3 h0
  obtain ⟨s1, e1, _⟩ := DataW.trod_string Try.underlying9 h1
  obtain ⟨s2, e2, _⟩ := DataW.trod_bool Try.underlying4 h2
  simp only [c3, c9, c4, List.drop_zero, List.drop_succ_cons, List.take_succ_cons, List.take_zero, List.cons.injEq, and_true] at e0 e1 e2
  subst e0 e1 e2
  exact ⟨⟨s0, s1, s2⟩, k80_mk W _⟩
theorem opens_slice {W : World} {α : Type} [Inhabited α] {t e : TypeId} {d : Kd α} (ht : Try.prog.underlying t = some (.slice e)) (hc : Try.prog.cellsOf e = d.sz) (ho : Opens W e d)
    {H : Type} {enc : TypeId × Value → H} {n : Nat} {cs : List Value} {x : DataW H × List MemPlace} (h : DataW.trod enc Try.prog W 0 (fun _ => true) true n t cs = some x) :
    ∃ A c xs, cs = [.slice A xs.length c] ∧ xs.length ≤ c ∧ Kd.C d W A xs.length xs := by
  rcases open_slice ht h with ⟨rfl, _⟩ | ⟨a, len, cap, m, k, D, Pl, rfl, hb, hl, hm, hmm, rfl, hx⟩
  · exact ⟨none, 0, [], rfl, Nat.le_refl _, rfl, by simp, fun h => absurd h (by simp)⟩
  simp only [if_true] at hmm
  subst hmm
  have H1 : ∀ i, ∃ p : α × List Value, i < len → p.2.length = d.sz ∧ d.K W p.1 p.2 ∧ ∀ j u, p.2[j]? = some u → W.cell? (a.add (i * d.sz + j)) = some u := by
    intro i
    by_cases hi : i < len
    · obtain ⟨cs', h1, h2⟩ := hx i (by omega)
      obtain ⟨q, hq⟩ := ho H enc k cs' _ h2
      obtain ⟨_, hlen, hcell⟩ := World.cells?_some h1
      rw [hc] at hlen hcell
      refine ⟨(q, cs'), fun _ => ⟨hlen, hq, fun j u hu => ?_⟩⟩
      have hj : j < cs'.length := (List.getElem?_eq_some_iff.1 hu).1
      have := hcell j (by omega)
      rw [hu, Addr.add_add] at this
      exact this
    · exact ⟨(default, []), fun h => absurd h hi⟩
  obtain ⟨F, hF⟩ := Classical.axiomOfChoice H1
  refine ⟨some a, m, (List.range len).map fun i => (F i).1, by simp, by simpa using hl, rfl, by simp; simp only [maxLen] at hm; omega, fun _ => ⟨a, rfl, fun j p hp => ?_⟩⟩
  have hj : j < len := by have := (List.getElem?_eq_some_iff.1 hp).1; simpa using this
  simp only [List.getElem?_map, List.getElem?_range hj, Option.map_some, Option.some.injEq] at hp
  obtain ⟨h1, h2, h3⟩ := hF j hj
  subst hp
  exact ⟨(F j).2, h1, h2, h3⟩
instance : Inhabited S52 := ⟨⟨⟨#[]⟩, ⟨#[]⟩, false⟩⟩
instance : Inhabited S80 := ⟨⟨0, ⟨#[]⟩, false⟩⟩
theorem opens67 (W : World) : Opens W 67 k67 := by
  intro H enc n cs x h
  obtain ⟨y0, y1, m, _, hl, h0, h1⟩ := trod_struct2 Try.underlying67 h
  obtain ⟨a, b, rfl⟩ := len2 (hl.trans c67)
  obtain ⟨s0, e0, _⟩ := DataW.trod_string Try.underlying9 h0
  obtain ⟨A, c, xs, e1, hle, hC⟩ := opens_slice Try.underlying65 c80 (opens80 W) h1
  simp only [c9, c65, List.drop_zero, List.drop_succ_cons, List.take_succ_cons, List.take_zero, List.cons.injEq, and_true] at e0 e1
  subst e0 e1
  exact ⟨⟨s0, xs⟩, k67_mk W _ hle hC⟩
end Go.Proofs.Ytehcmedeeaoebaa.PB
end
section
namespace Go.Proofs.Ytehcmedeeaoebaa.PB
open Go.ChangeAt Go.Joins Go.Deep Go.WideShapes Go.ChangeShapes
open Go.RowKit Go.Proofs.YtehcmedeeaoebaaW.PrintWords Go.Proofs.YtehcmedeeaoebaaW.PrintLast Go.Proofs.YtehcmedeeaoebaaW.PrintMore
instance : Inhabited S67 := ⟨⟨⟨#[]⟩, []⟩⟩
def light {H : Type} (t : TypeId) (d : DataW H) : Prop := ∀ n ∈ d.weights Try.prog t, n ≤ 140737488351232
def OpensW (W : World) {α : Type} (t : TypeId) (d : Kd α) (P : α → Prop) : Prop :=
  ∀ (H : Type) (enc : TypeId × Value → H) (n : Nat) (cs : List Value) (x : DataW H × List MemPlace), DataW.trod enc Try.prog W 0 (fun _ => true) true n t cs = some x → light t x.1 → ∃ a, d.K W a cs ∧ P a
def w69 (x : S69) : Prop := x.f0.size ≤ 140737488351232 ∧ x.f1.size ≤ 140737488351232
def w80 (x : S80) : Prop := (-9223372036854775808 ≤ x.f0 ∧ x.f0 ≤ 9223372036854775807) ∧ x.f1.size ≤ 140737488351232
def w67 (x : S67) : Prop := x.f0.size ≤ 140737488351232 ∧ x.f1.length ≤ 140737488351232 ∧ ∀ v ∈ x.f1, w80 v
theorem weights_agg2 {H : Type} {t : TypeId} {f0 f1 : Field} (ht : Try.prog.underlying t = some (.struct #[f0, f1])) (a b : DataW H) : (DataW.agg [a, b]).weights Try.prog t = a.weights Try.prog f0.type ++ b.weights Try.prog f1.type := by
  rw [DataW.weights, ht]; simp [DataW.weightsEach]
theorem weights_agg3 {H : Type} {t : TypeId} {f0 f1 f2 : Field} (ht : Try.prog.underlying t = some (.struct #[f0, f1, f2])) (a b c : DataW H) : (DataW.agg [a, b, c]).weights Try.prog t = a.weights Try.prog f0.type ++ (b.weights Try.prog f1.type ++ c.weights Try.prog f2.type) := by
  rw [DataW.weights, ht]; simp [DataW.weightsEach]
theorem weights_all {H : Type} {e : TypeId} : ∀ {l : List (DataW H)} {d : DataW H}, d ∈ l → ∀ n ∈ d.weights Try.prog e, n ∈ DataW.weightsAll Try.prog e l
  | [], d, h, _, _ => by cases h
  | a :: l, d, h, n, hn => by
    rw [DataW.weightsAll]
    rcases List.mem_cons.1 h with rfl | h
    · exact List.mem_append_left _ hn
    · exact List.mem_append_right _ (weights_all h n hn)
theorem weights_str {H : Type} (t : TypeId) (s : List UInt8) : (DataW.lit (H := H) (.string s)).weights Try.prog t = [s.length] := by rw [DataW.weights]
theorem opensW69 (W : World) : OpensW W 69 k69 w69 := by
  intro H enc n cs x h hw
  obtain ⟨y0, y1, m, rfl, hl, h0, h1⟩ := trod_struct2 Try.underlying69 h
  obtain ⟨a, b, rfl⟩ := len2 (hl.trans c69)
  obtain ⟨s0, e0, rfl, _⟩ := DataW.trod_string Try.underlying9 h0
  obtain ⟨s1, e1, rfl, _⟩ := DataW.trod_string Try.underlying9 h1
  simp only [c9, List.drop_zero, List.drop_succ_cons, List.take_succ_cons, List.take_zero, List.cons.injEq, and_true] at e0 e1
  subst e0 e1
  unfold light at hw
  rw [weights_agg2 Try.underlying69, weights_str, weights_str] at hw
  have b0 := hw s0.data.toList.length (by simp)
  have b1 := hw s1.data.toList.length (by simp)
  rw [Array.length_toList] at b0 b1
  exact ⟨⟨s0, s1⟩, k69_mk W _, ⟨b0, b1⟩⟩
theorem opensW80 (W : World) : OpensW W 80 k80 w80 := by
  intro H enc n cs x h hw
  obtain ⟨y0, y1, y2, m, rfl, hl, h0, h1, h2⟩ := trod_struct3 Try.underlying80 h
  obtain ⟨a, b, c, rfl⟩ := len3 (hl.trans c80)
  obtain ⟨s0, e0, rfl, b0⟩ := DataW.trod_int Try.underlying3 h0
  obtain ⟨s1, e1, rfl, _⟩ := DataW.trod_string Try.underlying9 h1
  obtain ⟨s2, e2, _⟩ := DataW.trod_bool Try.underlying4 h2
  simp only [c3, c9, c4, List.drop_zero, List.drop_succ_cons, List.take_succ_cons, List.take_zero, List.cons.injEq, and_true] at e0 e1 e2
  subst e0 e1 e2
  unfold light at hw
  rw [weights_agg3 Try.underlying80, weights_str] at hw
  have b1 := hw s1.data.toList.length (by simp)
  rw [Array.length_toList] at b1
  have b2 : (-9223372036854775808 ≤ s0 ∧ s0 ≤ 9223372036854775807) := by
    simp [Lit.wf, IntKind.min, IntKind.max, IntKind.bits, IntKind.signed] at b0
    omega
  exact ⟨⟨s0, s1, s2⟩, k80_mk W _, ⟨b2, b1⟩⟩
theorem opensW_slice {W : World} {α : Type} [Inhabited α] {P : α → Prop} {t e : TypeId} {d : Kd α} (ht : Try.prog.underlying t = some (.slice e)) (hc : Try.prog.cellsOf e = d.sz) (hb1 : 0 < Try.prog.bytesOf e) (ho : OpensW W e d P)
    {H : Type} {enc : TypeId × Value → H} {n : Nat} {cs : List Value} {x : DataW H × List MemPlace} (h : DataW.trod enc Try.prog W 0 (fun _ => true) true n t cs = some x) (hw : light t x.1) :
    ∃ A c xs, cs = [.slice A xs.length c] ∧ xs.length ≤ c ∧ Kd.C d W A xs.length xs ∧ (∀ x ∈ xs, P x) ∧ xs.length ≤ 140737488351232 := by
  rcases open_slice ht h with ⟨rfl, _⟩ | ⟨a, len, cap, m, k, D, Pl, rfl, hb, hl, hm, hmm, rfl, hx⟩
  · exact ⟨none, 0, [], rfl, Nat.le_refl _, ⟨rfl, by simp, fun h => absurd h (by simp)⟩, by simp, by simp⟩
  simp only [if_true] at hmm
  subst hmm
  unfold light at hw
  rw [DataW.weights, ht] at hw
  simp only at hw
  have hwl := hw _ List.mem_cons_self
  have hwe : ∀ i, i < len → light e (D i) := by
    intro i hi q hq
    refine hw q (List.mem_cons_of_mem _ (List.mem_append_left _ (weights_all (List.mem_map.2 ⟨i, List.mem_range.2 hi, rfl⟩) q hq)))
  have H1 : ∀ i, ∃ p : α × List Value, i < len → p.2.length = d.sz ∧ d.K W p.1 p.2 ∧ P p.1 ∧ ∀ j u, p.2[j]? = some u → W.cell? (a.add (i * d.sz + j)) = some u := by
    intro i
    by_cases hi : i < len
    · obtain ⟨cs', h1, h2⟩ := hx i (by omega)
      obtain ⟨q, hq, hP⟩ := ho H enc k cs' _ h2 (hwe i hi)
      obtain ⟨_, hlen, hcell⟩ := World.cells?_some h1
      rw [hc] at hlen hcell
      refine ⟨(q, cs'), fun _ => ⟨hlen, hq, hP, fun j u hu => ?_⟩⟩
      have hj : j < cs'.length := (List.getElem?_eq_some_iff.1 hu).1
      have := hcell j (by omega)
      rw [hu, Addr.add_add] at this
      exact this
    · exact ⟨(default, []), fun h => absurd h hi⟩
  obtain ⟨F, hF⟩ := Classical.axiomOfChoice H1
  refine ⟨some a, m, (List.range len).map fun i => (F i).1, by simp, by simpa using hl, ⟨rfl, by simp; simp only [maxLen] at hm; omega, fun _ => ⟨a, rfl, fun j p hp => ?_⟩⟩, fun x hx => ?_, ?_⟩
  · have hj : j < len := by have := (List.getElem?_eq_some_iff.1 hp).1; simpa using this
    simp only [List.getElem?_map, List.getElem?_range hj, Option.map_some, Option.some.injEq] at hp
    obtain ⟨h1, h2, _, h3⟩ := hF j hj
    subst hp
    exact ⟨(F j).2, h1, h2, h3⟩
  · obtain ⟨i, hi, rfl⟩ := List.mem_map.1 hx
    exact (hF i (List.mem_range.1 hi)).2.2.1
  · simp only [List.length_map, List.length_range] at hwl ⊢
    have : len * 1 ≤ (len + (m - len)) * Try.prog.bytesOf e := Nat.mul_le_mul (by omega) hb1
    omega
theorem by80 : 0 < Try.prog.bytesOf 80 := by rw [show Try.prog.bytesOf 80 = 32 by kernel_rfl]; omega
theorem by69 : 0 < Try.prog.bytesOf 69 := by rw [show Try.prog.bytesOf 69 = 32 by kernel_rfl]; omega
theorem by67 : 0 < Try.prog.bytesOf 67 := by rw [show Try.prog.bytesOf 67 = 40 by kernel_rfl]; omega
theorem opensW67 (W : World) : OpensW W 67 k67 w67 := by
  intro H enc n cs x h hw
  obtain ⟨y0, y1, m, rfl, hl, h0, h1⟩ := trod_struct2 Try.underlying67 h
  obtain ⟨a, b, rfl⟩ := len2 (hl.trans c67)
  obtain ⟨s0, e0, rfl, _⟩ := DataW.trod_string Try.underlying9 h0
  unfold light at hw
  rw [weights_agg2 Try.underlying67, weights_str] at hw
  have b0 := hw s0.data.toList.length (by simp)
  rw [Array.length_toList] at b0
  obtain ⟨A, c, xs, e1, hle, hC, hP, hn⟩ := opensW_slice Try.underlying65 c80 by80 (opensW80 W) h1 (fun q hq => hw q (List.mem_append_right _ hq))
  simp only [c9, c65, List.drop_zero, List.drop_succ_cons, List.take_succ_cons, List.take_zero, List.cons.injEq, and_true] at e0 e1
  subst e0 e1
  exact ⟨⟨s0, xs⟩, k67_mk W _ hle hC, ⟨b0, hn, hP⟩⟩
theorem light_of {H : Type} {ts : List TypeId} {ds : List (DataW H)} (h : (DataW.weightsEach Try.prog ts ds).all (· ≤ reachBytes) = true) {j : Nat} {t : TypeId} {d : DataW H} (ht : ts[j]? = some t) (hd : ds[j]? = some d) : light t d := by
  intro n hn
  have := List.all_eq_true.1 h n (DataW.weights_mem_each ht hd n hn)
  have h2 : n ≤ reachBytes := of_decide_eq_true this
  simpa [reachBytes] using h2
end Go.Proofs.Ytehcmedeeaoebaa.PB
end
section
namespace Go.Proofs.Ytehcmedeeaoebaa.PB
open Go.RowKit Go.Proofs.YtehcmedeeaoebaaW.PrintWords Go.Proofs.YtehcmedeeaoebaaW.PrintLast Go.Proofs.YtehcmedeeaoebaaW.PrintMore
set_option linter.unusedVariables false
set_option linter.unusedSimpArgs false
def vsOk (vs : List S80) : Bool := vs.all fun v => decide (v.f1.size ≤ 9223372036854775806 ∧ 0 ≤ v.f0 ∧ v.f0 ≤ 1152921504606846976)
def pairsRow (key : ByteArray) (vs : List S80) : List S69 := vs.map fun v => ⟨pairKey key v.f0, pairVal v⟩
def itemAt (l : List S67) (i : Nat) : S67 := l.getD i z67
def pairsL (k : Nat) (l : List S67) : Nat → Nat → List S69 → Option (List S69 × Int)
  | 0, _, acc => some (sortP acc, 0)
  | n + 1, i, acc => (batch_may.f k (itemAt l i).f0 (itemAt l i).f1).bind fun b =>
      if b = true then if 0 < i ∧ ltS (itemAt l (i - 1)).f0 (itemAt l i).f0 = false then some ([], 2)
        else if (itemAt l i).f0.size ≤ 120 ∧ vsOk (itemAt l i).f1 = true ∧ acc.length + (itemAt l i).f1.length ≤ 4398046511103 then pairsL k l n (i + 1) (acc ++ pairsRow (itemAt l i).f0 (itemAt l i).f1) else none
      else some ([], 2)
def batch_Pairs.f (k : Nat) (l0 : List S67) : Option (List S69 × Int) := pairsL k l0 l0.length 0 []
theorem pairsL_mono (k : Nat) (l : List S67) : ∀ n i acc, LeO (pairsL k l n i acc) (pairsL (k + 1) l n i acc)
  | 0, _, _ => LeO.refl _
  | n + 1, i, acc => by
    rw [pairsL, pairsL]
    exact LeO.bind (batch_may.mono _ _ _) fun _ => LeO.ite (LeO.ite (LeO.refl _) (LeO.ite (pairsL_mono k l n _ _) (LeO.refl _))) (LeO.refl _)
theorem batch_Pairs.mono : ∀ a0 k, LeO (batch_Pairs.f k a0) (batch_Pairs.f (k + 1) a0) := fun a0 k => pairsL_mono k a0 _ _ _
theorem rdT67_get (l : List S67) (i : Nat) : rd_T67 l (i : Int) = itemAt l i := by simp [rd_T67, itemAt]
theorem pairsRow_take (key : ByteArray) (vs : List S80) (j : Nat) (h : j < vs.length) : pairsRow key (vs.take (j + 1)) = pairsRow key (vs.take j) ++ [⟨pairKey key vs[j].f0, pairVal vs[j]⟩] := by
  unfold pairsRow; rw [List.take_succ_eq_append_getElem h, List.map_append]; rfl
set_option maxHeartbeats 8000000 in
set_option maxRecDepth 100000 in
theorem batch_Pairs.calls (k : Nat) (A0 : Option Addr) (c0 : Nat) (l0 : List (S67)) (r1 : List (S69)) (r2 : Int) (w : World) (hr0 : Kd.C k67 w A0 l0.length l0) (hc0 : l0.length ≤ c0) (h : batch_Pairs.f k l0 = some (r1, r2)) :
    Calls Try.prog 28 #[.slice A0 l0.length c0] w fun e w' => ∃ v0_ : Value, e = .returned (.tuple #[v0_, .int .i64 r2]) ∧ Kd.R k69 69 w' w.heap.size (fun _ => True) v0_ r1 ∧ Below w.heap.size w w' := by
  have hl := hr0.2.1
  have HC := Aside0.mk hr0
  have HF := Aside0.mk (show pairsL k l0 (l0.length - 0) 0 [] = some (r1, r2) from h)
  clear hr0 h
  go_enter Try.func28, Try.ntmps28
  go_wp2
  go_loopg [4, 11] l0.length (fun gg s4 s11 wr => ∃ (i : Nat) (acc : List S69), i ≤ l0.length ∧ acc.length ≤ 4398046511103 ∧ l0.length - i ≤ gg ∧ s11 = .int .i64 i ∧ Aside0 (Below w.heap.size w wr) ∧ Aside0 (Kd.R k69 69 wr w.heap.size (fun _ => True) s4 acc) ∧ Aside0 (pairsL k l0 (l0.length - i) i acc = some (r1, r2)))
  case atStart => exact ⟨0, [], Nat.zero_le _, by simp, by omega, rfl, ⟨Below.refl _ _⟩, ⟨Kd.R_nil _ _ _ _ _⟩, HF⟩
  case round =>
    obtain ⟨i, acc, hi, hal, hgi, rfl, HB, HR, HF⟩ := hrel
    have HAL := Aside0.mk hal
    clear hal
    by_cases hil : i < l0.length
    · have hiz : (i : Int) < (l0.length : Int) := by omega
      obtain ⟨n, hn⟩ : ∃ n, l0.length - i = n + 1 := ⟨l0.length - i - 1, by omega⟩
      obtain ⟨ad, A1, c1, e, h0, h1, h2, h3⟩ := at_T67 HC.out (i : Int) (by omega) hiz
      cases e
      rw [rdT67_get] at h0 h1 h2 h3
      simp only [Int.toNat_natCast] at h0 h1 h2 h3
      have HF0 := HF.out
      rw [hn, pairsL] at HF0
      obtain ⟨b, hmy, HF0⟩ := Option.bind_eq_some_iff.1 HF0
      obtain ⟨key, hkey⟩ : ∃ q, (itemAt l0 i).f0 = q := ⟨_, rfl⟩
      obtain ⟨vs, hvs⟩ : ∃ q, (itemAt l0 i).f1 = q := ⟨_, rfl⟩
      rw [hkey, hvs] at hmy HF0
      rw [hkey] at h0
      rw [hvs] at h1 h2 h3
      replace h0 := (HB.out.cell (World.block_lt_of_cell? w _ h0)).trans h0
      replace h1 := (HB.out.cell (World.block_lt_of_cell? w _ h1)).trans h1
      have HMY := Aside0.mk hmy
      have HLV := Aside0.mk h2
      have HCV : Aside0 (∀ W, Below w.heap.size w W → Kd.C k80 W A1 vs.length vs) := ⟨fun W hb => Kd.C_below h3 hb⟩
      clear hmy h2 h3 hkey hvs HF
      cases b with
      | false =>
        rw [if_neg (by simp)] at HF0
        simp only [Option.some.injEq, Prod.mk.injEq] at HF0
        obtain ⟨rfl, rfl⟩ := HF0
        go_wp2_with (first | ((with_reducible refine gate_dst (N := 6) rfl ?_); refine box_event ?hg (N := 6) ?hd (cs := #[.string ⟨#[]⟩, .slice none 0 0]) (t := 67) ?hr ?_; (case hd => rfl); (case hg => rfl); (case hr => first | (go_simp; done) | (go_simp; rfl)); intro g6 hg w1 hbox hb; have G6 := Aside0.mk (show w.heap.size ≤ g6 from (by rw [hg]; exact HB.out.size)); have B6 := Aside0.mk hbox; clear hbox hg; have n0_ := Aside0.mk (below_then HB.out HB.out.size hb); have n1_ := Aside0.mk (Kd.R_below HR.out hb); clear HB HR; have HB := n0_; have HR := n1_; clear n0_ n1_; clear hb) | ((with_reducible refine gate_store (t := 67) (p := 6) (v := .tmp 15) rfl ?_); go_must (refine sagg_event rfl 67 (.tmp 6) (.tmp 15) rfl rfl g6 #[.string key, .slice A1 vs.length c1] _ _ rfl rfl B6.out (by kernel_rfl) rfl rfl ?_); intro w2 hbk hu; have nR_ := Aside0.mk (Kd.R_mono (Kd.R_step (Kd.R_types HR.out B6.out (by decide)) (fun k_ hk_ _ => hu.block k_ hk_.2)) (fun _ hk_ => hk_.1)); clear HR; have HR := nR_; clear nR_; have n0_ := Aside0.mk (hu.below HB.out G6.out); clear HB; have HB := n0_; clear n0_; clear B6; have B6 := Aside0.mk hbk; have c60 := (blk_cell B6.out 0).trans rfl; have c61 := (blk_cell B6.out 1).trans rfl; clear hbk hu))
        have hB1 := HB.out
        have hR1 := HR.out
        have qk : ∀ p : Held (fun w' => w'.cell? ⟨g6, 0, none⟩ = some (.string key) ∧ w'.cell? ⟨g6, 1, none⟩ = some (.slice A1 vs.length c1) ∧ w'.heap[g6]? = some (.cells #[.string key, .slice A1 vs.length c1] 67 (0, 0)) ∧ Kd.R k69 69 w' w.heap.size (fun _ => True) u4 acc ∧ Below w.heap.size w w'), p.w.cell? ⟨g6, 0, none⟩ = some (.string key) := fun p => p.h.1
        have qv : ∀ p : Held (fun w' => w'.cell? ⟨g6, 0, none⟩ = some (.string key) ∧ w'.cell? ⟨g6, 1, none⟩ = some (.slice A1 vs.length c1) ∧ w'.heap[g6]? = some (.cells #[.string key, .slice A1 vs.length c1] 67 (0, 0)) ∧ Kd.R k69 69 w' w.heap.size (fun _ => True) u4 acc ∧ Below w.heap.size w w'), p.w.cell? ⟨g6, 1, none⟩ = some (.slice A1 vs.length c1) := fun p => p.h.2.1
        have HSK := Aside0.mk (fun (p : Held (fun w' => w'.cell? ⟨g6, 0, none⟩ = some (.string key) ∧ w'.cell? ⟨g6, 1, none⟩ = some (.slice A1 vs.length c1) ∧ w'.heap[g6]? = some (.cells #[.string key, .slice A1 vs.length c1] 67 (0, 0)) ∧ Kd.R k69 69 w' w.heap.size (fun _ => True) u4 acc ∧ Below w.heap.size w w')) (w' : World) (hb : Below p.w.heap.size p.w w') => show (fun w' => w'.cell? ⟨g6, 0, none⟩ = some (.string key) ∧ w'.cell? ⟨g6, 1, none⟩ = some (.slice A1 vs.length c1) ∧ w'.heap[g6]? = some (.cells #[.string key, .slice A1 vs.length c1] 67 (0, 0)) ∧ Kd.R k69 69 w' w.heap.size (fun _ => True) u4 acc ∧ Below w.heap.size w w') w' from ⟨pw_cell_below hb p.h.1, pw_cell_below hb p.h.2.1, (hb.block _ (blk_lt (p.h.2.2.1))).trans (p.h.2.2.1), Kd.R_below (p.h.2.2.2.1) hb, below_then (p.h.2.2.2.2) (Below.size (p.h.2.2.2.2)) hb⟩)
        have HCL := Aside0.mk (fun (p : Held (fun w' => w'.cell? ⟨g6, 0, none⟩ = some (.string key) ∧ w'.cell? ⟨g6, 1, none⟩ = some (.slice A1 vs.length c1) ∧ w'.heap[g6]? = some (.cells #[.string key, .slice A1 vs.length c1] 67 (0, 0)) ∧ Kd.R k69 69 w' w.heap.size (fun _ => True) u4 acc ∧ Below w.heap.size w w')) => Held.call (batch_may.calls k key A1 c1 vs false p.w (HCV.out _ (p.h.2.2.2.2)) HLV.out HMY.out) (HSK.out p))
        refine wp_region_quiet_held (fun w' => w'.cell? ⟨g6, 0, none⟩ = some (.string key) ∧ w'.cell? ⟨g6, 1, none⟩ = some (.slice A1 vs.length c1) ∧ w'.heap[g6]? = some (.cells #[.string key, .slice A1 vs.length c1] 67 (0, 0)) ∧ Kd.R k69 69 w' w.heap.size (fun _ => True) u4 acc ∧ Below w.heap.size w w') (by kernel_rfl) (by kernel_rfl) ⟨c60, c61, B6.out, Kd.R_drew hR1, below_drew hB1⟩ ?_
        clear hB1 hR1
        repeat ((with_reducible refine wpQuiet_step (fun K hK => ?_)); go_simp; (try rw [if_neg (fun h => by cases h)]); first | (with_reducible refine hK _ ?_; clear hK K) | (apply Exists.intro; with_reducible refine And.intro (fun _ => ?_) ?_; (first | with_reducible rfl | exact HCL.out _); with_reducible refine hK _ ?_; clear hK K))
        refine wpQuiet_nil ?_
        intro _ hw'
        obtain ⟨p, hw''⟩ := hw'
        subst hw''
        have hH := p.h
        clear HSK HCL qk qv
        revert hH
        generalize p.w = w'
        intro hH
        have B6' := Aside0.mk hH.2.2.1
        have HR' := Aside0.mk hH.2.2.2.1
        have HB' := Aside0.mk hH.2.2.2.2
        have c60' := hH.1
        have c61' := hH.2.1
        clear hH HB HR B6 c60 c61
        go_wp2
        go_ret2
        exact ⟨_, rfl, Kd.R_nil _ _ _ _ _, HB'.out⟩
      | true =>
        rw [if_pos rfl] at HF0
        by_cases hi0 : ¬ 0 < i
        · rw [if_neg (fun h => hi0 h.1)] at HF0
          have p2 : ¬ (0 : Int) < (i : Int) := by omega
          have p3 : decide ((0 : Int) < (i : Int)) = false := decide_eq_false p2
          by_cases hk3 : key.size ≤ 120 ∧ vsOk vs = true ∧ acc.length + vs.length ≤ 4398046511103
          case neg => rw [if_neg hk3] at HF0; cases HF0
          rw [if_pos hk3] at HF0
          obtain ⟨hky, hvs, hln⟩ := hk3
          have HKY := Aside0.mk hky
          have HVS := Aside0.mk hvs
          have HLN0 := Aside0.mk hln
          have HF1 := Aside0.mk HF0
          clear hky hvs hln HF0
          go_wp2_with (first | ((with_reducible refine gate_dst (N := 6) rfl ?_); refine box_event ?hg (N := 6) ?hd (cs := #[.string ⟨#[]⟩, .slice none 0 0]) (t := 67) ?hr ?_; (case hd => rfl); (case hg => rfl); (case hr => first | (go_simp; done) | (go_simp; rfl)); intro g6 hg w1 hbox hb; have G6 := Aside0.mk (show w.heap.size ≤ g6 from (by rw [hg]; exact HB.out.size)); have B6 := Aside0.mk hbox; clear hbox hg; have n0_ := Aside0.mk (below_then HB.out HB.out.size hb); have n1_ := Aside0.mk (Kd.R_below HR.out hb); clear HB HR; have HB := n0_; have HR := n1_; clear n0_ n1_; clear hb) | ((with_reducible refine gate_store (t := 67) (p := 6) (v := .tmp 15) rfl ?_); go_must (refine sagg_event rfl 67 (.tmp 6) (.tmp 15) rfl rfl g6 #[.string key, .slice A1 vs.length c1] _ _ rfl rfl B6.out (by kernel_rfl) rfl rfl ?_); intro w2 hbk hu; have nR_ := Aside0.mk (Kd.R_mono (Kd.R_step (Kd.R_types HR.out B6.out (by decide)) (fun k_ hk_ _ => hu.block k_ hk_.2)) (fun _ hk_ => hk_.1)); clear HR; have HR := nR_; clear nR_; have n0_ := Aside0.mk (hu.below HB.out G6.out); clear HB; have HB := n0_; clear n0_; clear B6; have B6 := Aside0.mk hbk; have c60 := (blk_cell B6.out 0).trans rfl; have c61 := (blk_cell B6.out 1).trans rfl; clear hbk hu))
          have hB1 := HB.out
          have hR1 := HR.out
          have qk : ∀ p : Held (fun w' => w'.cell? ⟨g6, 0, none⟩ = some (.string key) ∧ w'.cell? ⟨g6, 1, none⟩ = some (.slice A1 vs.length c1) ∧ w'.heap[g6]? = some (.cells #[.string key, .slice A1 vs.length c1] 67 (0, 0)) ∧ Kd.R k69 69 w' w.heap.size (fun _ => True) u4 acc ∧ Below w.heap.size w w'), p.w.cell? ⟨g6, 0, none⟩ = some (.string key) := fun p => p.h.1
          have qv : ∀ p : Held (fun w' => w'.cell? ⟨g6, 0, none⟩ = some (.string key) ∧ w'.cell? ⟨g6, 1, none⟩ = some (.slice A1 vs.length c1) ∧ w'.heap[g6]? = some (.cells #[.string key, .slice A1 vs.length c1] 67 (0, 0)) ∧ Kd.R k69 69 w' w.heap.size (fun _ => True) u4 acc ∧ Below w.heap.size w w'), p.w.cell? ⟨g6, 1, none⟩ = some (.slice A1 vs.length c1) := fun p => p.h.2.1
          have HSK := Aside0.mk (fun (p : Held (fun w' => w'.cell? ⟨g6, 0, none⟩ = some (.string key) ∧ w'.cell? ⟨g6, 1, none⟩ = some (.slice A1 vs.length c1) ∧ w'.heap[g6]? = some (.cells #[.string key, .slice A1 vs.length c1] 67 (0, 0)) ∧ Kd.R k69 69 w' w.heap.size (fun _ => True) u4 acc ∧ Below w.heap.size w w')) (w' : World) (hb : Below p.w.heap.size p.w w') => show (fun w' => w'.cell? ⟨g6, 0, none⟩ = some (.string key) ∧ w'.cell? ⟨g6, 1, none⟩ = some (.slice A1 vs.length c1) ∧ w'.heap[g6]? = some (.cells #[.string key, .slice A1 vs.length c1] 67 (0, 0)) ∧ Kd.R k69 69 w' w.heap.size (fun _ => True) u4 acc ∧ Below w.heap.size w w') w' from ⟨pw_cell_below hb p.h.1, pw_cell_below hb p.h.2.1, (hb.block _ (blk_lt (p.h.2.2.1))).trans (p.h.2.2.1), Kd.R_below (p.h.2.2.2.1) hb, below_then (p.h.2.2.2.2) (Below.size (p.h.2.2.2.2)) hb⟩)
          have HCL := Aside0.mk (fun (p : Held (fun w' => w'.cell? ⟨g6, 0, none⟩ = some (.string key) ∧ w'.cell? ⟨g6, 1, none⟩ = some (.slice A1 vs.length c1) ∧ w'.heap[g6]? = some (.cells #[.string key, .slice A1 vs.length c1] 67 (0, 0)) ∧ Kd.R k69 69 w' w.heap.size (fun _ => True) u4 acc ∧ Below w.heap.size w w')) => Held.call (batch_may.calls k key A1 c1 vs true p.w (HCV.out _ (p.h.2.2.2.2)) HLV.out HMY.out) (HSK.out p))
          refine wp_region_quiet_held (fun w' => w'.cell? ⟨g6, 0, none⟩ = some (.string key) ∧ w'.cell? ⟨g6, 1, none⟩ = some (.slice A1 vs.length c1) ∧ w'.heap[g6]? = some (.cells #[.string key, .slice A1 vs.length c1] 67 (0, 0)) ∧ Kd.R k69 69 w' w.heap.size (fun _ => True) u4 acc ∧ Below w.heap.size w w') (by kernel_rfl) (by kernel_rfl) ⟨c60, c61, B6.out, Kd.R_drew hR1, below_drew hB1⟩ ?_
          clear hB1 hR1
          repeat ((with_reducible refine wpQuiet_step (fun K hK => ?_)); go_simp; (try rw [if_neg (fun h => by cases h)]); first | (with_reducible refine hK _ ?_; clear hK K) | (apply Exists.intro; with_reducible refine And.intro (fun _ => ?_) ?_; (first | with_reducible rfl | exact HCL.out _); with_reducible refine hK _ ?_; clear hK K))
          refine wpQuiet_nil ?_
          intro _ hw'
          obtain ⟨p, hw''⟩ := hw'
          subst hw''
          have hH := p.h
          clear HSK HCL qk qv
          revert hH
          generalize p.w = w'
          intro hH
          have B6' := Aside0.mk hH.2.2.1
          have HR' := Aside0.mk hH.2.2.2.1
          have HB' := Aside0.mk hH.2.2.2.2
          have c60' := hH.1
          have c61' := hH.2.1
          clear hH HB HR B6 c60 c61
          have hvl : (vs.length : Int) ≤ 9223372036854775807 := by have := (HCV.out _ HB'.out).2.1; omega
          have HVL := Aside0.mk hvl
          clear hvl
          go_wp2
          go_loopg [4, 37] vs.length (fun gg s4 s37 wr => ∃ j : Nat, j ≤ vs.length ∧ vs.length - j ≤ gg ∧ s37 = .int .i64 j ∧ Aside0 (Below w.heap.size w wr) ∧ Aside0 (wr.heap[g6]? = some (.cells #[.string key, .slice A1 vs.length c1] 67 (0, 0))) ∧ Aside0 (Kd.R k69 69 wr w.heap.size (fun _ => True) s4 (acc ++ pairsRow key (vs.take j))))
          case atStart => exact ⟨0, Nat.zero_le _, by omega, rfl, HB', B6', ⟨by rw [List.take_zero]; simpa [pairsRow] using HR'.out⟩⟩
          case round =>
            obtain ⟨j, hj, hgj, rfl, HB, B6, HR⟩ := hrel
            have hvz := HVL.out
            by_cases hjl : j < vs.length
            · have hjz : (j : Int) < (vs.length : Int) := by omega
              obtain ⟨ad5, e5, h0, h1, h2⟩ := at_T80 (HCV.out _ HB.out) (j : Int) (by omega) hjz
              rw [rdT80_get vs j hjl] at h0 h1 h2
              simp only [Int.toNat_natCast] at h0 h1 h2
              have hok := List.all_eq_true.1 HVS.out vs[j] (List.getElem_mem hjl)
              rw [decide_eq_true_iff] at hok
              have hst := pairsRow_take key vs j hjl
              obtain ⟨x0, x1, x2, hx⟩ : ∃ x0 x1 x2, vs[j] = ⟨x0, x1, x2⟩ := ⟨_, _, _, rfl⟩
              rw [hx] at h0 h1 h2 hok hst
              simp only at h0 h1 h2 hok hst
              obtain ⟨pk0, hpk⟩ : ∃ q, pairKey key x0 = q := ⟨_, rfl⟩
              obtain ⟨pv0, hpv⟩ : ∃ q, pairVal ⟨x0, x1, x2⟩ = q := ⟨_, rfl⟩
              rw [hpk, hpv] at hst
              have HPK := Aside0.mk (show pairKey key (⟨x0, x1, x2⟩ : S80).f0 = pk0 from hpk)
              have HPV := Aside0.mk hpv
              have HX1 := Aside0.mk (show (⟨x0, x1, x2⟩ : S80).f1.size ≤ 9223372036854775806 from hok.1)
              have HX0 := Aside0.mk (show 0 ≤ (⟨x0, x1, x2⟩ : S80).f0 from hok.2.1)
              have HX2 := Aside0.mk (show (⟨x0, x1, x2⟩ : S80).f0 ≤ 1152921504606846976 from hok.2.2)
              obtain ⟨acc5, ha5⟩ : ∃ q, acc ++ pairsRow key (vs.take j) = q := ⟨_, rfl⟩
              have hal : acc5.length = acc.length + j := by rw [← ha5]; simp [pairsRow]; omega
              have hl32 : (acc5.length + 1) * 32 ≤ 140737488355328 := by have := HLN0.out; omega
              have HLN := Aside0.mk hl32
              have HST := Aside0.mk (show acc ++ pairsRow key (vs.take (j + 1)) = acc5 ++ [⟨pk0, pv0⟩] by rw [hst, ← List.append_assoc, ha5])
              rw [ha5] at HR
              obtain ⟨v5, hv5⟩ : ∃ q, q = u4 := ⟨_, rfl⟩
              rw [← hv5] at HR ⊢
              clear hok hst hpk hpv hx ha5 hal hl32 hv5
              cases e5
              go_wp2_with (first | ((with_reducible refine gate_dst (N := 8) rfl ?_); refine box_event ?hg (N := 8) ?hd (cs := #[.int .i64 0, .string ⟨#[]⟩, .bool false]) (t := 80) ?hr ?_; (case hd => rfl); (case hg => rfl); (case hr => first | (go_simp; done) | (go_simp; rfl)); intro g8 hg w4 hbox hb; have G8 := Aside0.mk (show w.heap.size ≤ g8 from (by rw [hg]; exact HB.out.size)); have H68 := Aside0.mk (show g6 ≠ g8 from fun e => absurd (blk_lt B6.out) (by omega)); have B8 := Aside0.mk hbox; clear hbox hg; have n0_ := Aside0.mk (below_then HB.out HB.out.size hb); have n1_ := Aside0.mk ((hb.block _ (blk_lt B6.out)).trans B6.out); have n2_ := Aside0.mk (Kd.R_below HR.out hb); clear HB B6 HR; have HB := n0_; have B6 := n1_; have HR := n2_; clear n0_ n1_ n2_; clear hb) | ((with_reducible refine gate_store (t := 80) (p := 8) (v := .tmp 40) rfl ?_); go_must (refine sagg_event rfl 80 (.tmp 8) (.tmp 40) rfl rfl g8 #[.int .i64 x0, .string x1, .bool x2] _ _ rfl rfl B8.out (by kernel_rfl) rfl rfl ?_); intro w5 hbk hu; have nR_ := Aside0.mk (Kd.R_mono (Kd.R_step (Kd.R_types HR.out B8.out (by decide)) (fun k_ hk_ _ => hu.block k_ hk_.2)) (fun _ hk_ => hk_.1)); clear HR; have HR := nR_; clear nR_; have n0_ := Aside0.mk (hu.below HB.out G8.out); have n1_ := Aside0.mk (hu.blk B6.out H68.out); clear HB B6; have HB := n0_; have B6 := n1_; clear n0_ n1_; clear B8; have B8 := Aside0.mk hbk; have c60 := (blk_cell B6.out 0).trans rfl; have c80 := (blk_cell B8.out 0).trans rfl; have c81 := (blk_cell B8.out 1).trans rfl; have c82 := (blk_cell B8.out 2).trans rfl; clear hbk hu) | (go_at_call 54; go_must (refine (pair.calls key ⟨x0, x1, x2⟩ _ HKY.out HX1.out HX0.out HX2.out).mono ?_); rintro e w6 ⟨rfl, hb⟩; have n0_ := Aside0.mk (below_then HB.out HB.out.size hb); have n1_ := Aside0.mk ((hb.block _ (blk_lt B6.out)).trans B6.out); have n2_ := Aside0.mk (Kd.R_below HR.out hb); clear HB B6 HR; have HB := n0_; have B6 := n1_; have HR := n2_; clear n0_ n1_ n2_; rw [HPK.out, HPV.out]; clear hb) | ((with_reducible refine gate_builtin (b := .append) (xs := #[.tmp 41, .tmp 46]) rfl ?_); at_builtin; go_must (refine Kd.R_append k69 (w0 := w) w.heap.size rfl (.tmp 41) (.tmp 46) 43 69 (.agg #[(.string ⟨#[]⟩), (.string ⟨#[]⟩)]) 32 rfl Try.underlying43 info69 rfl (by decide) (by decide) v5 acc5 (⟨pk0, pv0⟩ : S69) [.string pk0, .string pv0] (fun _ => True) (fun _ => False) rfl rfl (k69_mkM _ _ _ (⟨pk0, pv0⟩ : S69)) (fun _ hk => hk.elim) (fun _ _ => trivial) HR.out HB.out HB.out.size HLN.out ?_); intro v1 w7 ho hb hg hat; have n1_ := Aside0.mk (blk_grown B6.out hg (Kd.R_ne HR.out B6.out (by decide))); clear HB B6 HR; have HB := Aside0.mk hb; have B6 := n1_; clear n1_; have HR := Aside0.mk ho; clear ho hb hg hat))
              go_roundg (vs.length - (j + 1))
              case measure => omega
              case rel => exact ⟨j + 1, by omega, by omega, by go_num, HB, B6, ⟨by rw [HST.out]; exact HR.out⟩⟩
            · have hjz : ¬ (j : Int) < (vs.length : Int) := by omega
              have HR2 : Aside0 (Kd.R k69 69 wr w.heap.size (fun _ => True) u4 (acc ++ pairsRow key vs)) := ⟨by have := HR.out; rwa [List.take_of_length_le (by omega)] at this⟩
              clear HR
              go_wp2
              go_roundg (l0.length - (i + 1))
              case measure => omega
              case rel => exact ⟨i + 1, acc ++ pairsRow key vs, by omega, by have := HLN0.out; simp [pairsRow]; omega, by omega, by go_num, HB, HR2, ⟨by have := HF1.out; rwa [show l0.length - (i + 1) = n by omega]⟩⟩
        · obtain ⟨m, rfl⟩ : ∃ m, i = m + 1 := ⟨i - 1, by omega⟩
          obtain ⟨ad', A1', c1', e', g0, g1, g2, g3⟩ := at_T67 HC.out (m : Int) (by omega) (by omega)
          cases e'
          rw [rdT67_get] at g0
          simp only [Int.toNat_natCast] at g0
          obtain ⟨pk, hpk⟩ : ∃ q, (itemAt l0 m).f0 = q := ⟨_, rfl⟩
          rw [hpk] at g0
          have PW := Aside0.mk g0
          clear g0 g1 g2 g3
          have p0 : (0 : Int) ≤ (m : Int) := by omega
          have p1 : (m : Int) < (l0.length : Int) := by omega
          simp only [Int.natCast_add, Int.cast_ofNat_Int] at hiz ⊢
          have p2 : (0 : Int) < (m : Int) + 1 := by omega
          have p4 : IntKind.i64.wrap (m : Int) = (m : Int) := by simp [IntKind.wrap, IntKind.bits, IntKind.signed]; omega
          have p3 : decide ((0 : Int) < (m : Int) + 1) = true := decide_eq_true p2
          by_cases hq : ltS pk key = true
          · have hq' : Op.bytesLess pk.toList key.toList = true := hq
            rw [if_neg (by rw [show m + 1 - 1 = m from rfl, hpk, hq]; simp)] at HF0
            clear hq hpk
            by_cases hk3 : key.size ≤ 120 ∧ vsOk vs = true ∧ acc.length + vs.length ≤ 4398046511103
            case neg => rw [if_neg hk3] at HF0; cases HF0
            rw [if_pos hk3] at HF0
            obtain ⟨hky, hvs, hln⟩ := hk3
            have HKY := Aside0.mk hky
            have HVS := Aside0.mk hvs
            have HLN0 := Aside0.mk hln
            have HF1 := Aside0.mk HF0
            clear hky hvs hln HF0
            go_wp2_with (first | ((with_reducible refine gate_dst (N := 6) rfl ?_); refine box_event ?hg (N := 6) ?hd (cs := #[.string ⟨#[]⟩, .slice none 0 0]) (t := 67) ?hr ?_; (case hd => rfl); (case hg => rfl); (case hr => first | (go_simp; done) | (go_simp; rfl)); intro g6 hg w1 hbox hb; have G6 := Aside0.mk (show w.heap.size ≤ g6 from (by rw [hg]; exact HB.out.size)); have B6 := Aside0.mk hbox; clear hbox hg; have n0_ := Aside0.mk (below_then HB.out HB.out.size hb); have n1_ := Aside0.mk (Kd.R_below HR.out hb); clear HB HR; have HB := n0_; have HR := n1_; clear n0_ n1_; clear hb) | ((with_reducible refine gate_store (t := 67) (p := 6) (v := .tmp 15) rfl ?_); go_must (refine sagg_event rfl 67 (.tmp 6) (.tmp 15) rfl rfl g6 #[.string key, .slice A1 vs.length c1] _ _ rfl rfl B6.out (by kernel_rfl) rfl rfl ?_); intro w2 hbk hu; have nR_ := Aside0.mk (Kd.R_mono (Kd.R_step (Kd.R_types HR.out B6.out (by decide)) (fun k_ hk_ _ => hu.block k_ hk_.2)) (fun _ hk_ => hk_.1)); clear HR; have HR := nR_; clear nR_; have n0_ := Aside0.mk (hu.below HB.out G6.out); clear HB; have HB := n0_; clear n0_; clear B6; have B6 := Aside0.mk hbk; have c60 := (blk_cell B6.out 0).trans rfl; have c61 := (blk_cell B6.out 1).trans rfl; have p0c := (HB.out.cell (World.block_lt_of_cell? w _ PW.out)).trans PW.out; clear hbk hu))
            have hB1 := HB.out
            have hR1 := HR.out
            have qp : ∀ p : Held (fun w' => w'.cell? (ad.add (m * 2)) = some (.string pk) ∧ w'.cell? ⟨g6, 0, none⟩ = some (.string key) ∧ w'.cell? ⟨g6, 1, none⟩ = some (.slice A1 vs.length c1) ∧ w'.heap[g6]? = some (.cells #[.string key, .slice A1 vs.length c1] 67 (0, 0)) ∧ Kd.R k69 69 w' w.heap.size (fun _ => True) u4 acc ∧ Below w.heap.size w w'), p.w.cell? (ad.add (m * 2)) = some (.string pk) := fun p => p.h.1
            have qk : ∀ p : Held (fun w' => w'.cell? (ad.add (m * 2)) = some (.string pk) ∧ w'.cell? ⟨g6, 0, none⟩ = some (.string key) ∧ w'.cell? ⟨g6, 1, none⟩ = some (.slice A1 vs.length c1) ∧ w'.heap[g6]? = some (.cells #[.string key, .slice A1 vs.length c1] 67 (0, 0)) ∧ Kd.R k69 69 w' w.heap.size (fun _ => True) u4 acc ∧ Below w.heap.size w w'), p.w.cell? ⟨g6, 0, none⟩ = some (.string key) := fun p => p.h.2.1
            have qv : ∀ p : Held (fun w' => w'.cell? (ad.add (m * 2)) = some (.string pk) ∧ w'.cell? ⟨g6, 0, none⟩ = some (.string key) ∧ w'.cell? ⟨g6, 1, none⟩ = some (.slice A1 vs.length c1) ∧ w'.heap[g6]? = some (.cells #[.string key, .slice A1 vs.length c1] 67 (0, 0)) ∧ Kd.R k69 69 w' w.heap.size (fun _ => True) u4 acc ∧ Below w.heap.size w w'), p.w.cell? ⟨g6, 1, none⟩ = some (.slice A1 vs.length c1) := fun p => p.h.2.2.1
            have HSK := Aside0.mk (fun (p : Held (fun w' => w'.cell? (ad.add (m * 2)) = some (.string pk) ∧ w'.cell? ⟨g6, 0, none⟩ = some (.string key) ∧ w'.cell? ⟨g6, 1, none⟩ = some (.slice A1 vs.length c1) ∧ w'.heap[g6]? = some (.cells #[.string key, .slice A1 vs.length c1] 67 (0, 0)) ∧ Kd.R k69 69 w' w.heap.size (fun _ => True) u4 acc ∧ Below w.heap.size w w')) (w' : World) (hb : Below p.w.heap.size p.w w') => show (fun w' => w'.cell? (ad.add (m * 2)) = some (.string pk) ∧ w'.cell? ⟨g6, 0, none⟩ = some (.string key) ∧ w'.cell? ⟨g6, 1, none⟩ = some (.slice A1 vs.length c1) ∧ w'.heap[g6]? = some (.cells #[.string key, .slice A1 vs.length c1] 67 (0, 0)) ∧ Kd.R k69 69 w' w.heap.size (fun _ => True) u4 acc ∧ Below w.heap.size w w') w' from ⟨pw_cell_below hb p.h.1, pw_cell_below hb p.h.2.1, pw_cell_below hb p.h.2.2.1, (hb.block _ (blk_lt (p.h.2.2.2.1))).trans (p.h.2.2.2.1), Kd.R_below (p.h.2.2.2.2.1) hb, below_then (p.h.2.2.2.2.2) (Below.size (p.h.2.2.2.2.2)) hb⟩)
            have HCL := Aside0.mk (fun (p : Held (fun w' => w'.cell? (ad.add (m * 2)) = some (.string pk) ∧ w'.cell? ⟨g6, 0, none⟩ = some (.string key) ∧ w'.cell? ⟨g6, 1, none⟩ = some (.slice A1 vs.length c1) ∧ w'.heap[g6]? = some (.cells #[.string key, .slice A1 vs.length c1] 67 (0, 0)) ∧ Kd.R k69 69 w' w.heap.size (fun _ => True) u4 acc ∧ Below w.heap.size w w')) => Held.call (batch_may.calls k key A1 c1 vs true p.w (HCV.out _ (p.h.2.2.2.2.2)) HLV.out HMY.out) (HSK.out p))
            refine wp_region_quiet_held (fun w' => w'.cell? (ad.add (m * 2)) = some (.string pk) ∧ w'.cell? ⟨g6, 0, none⟩ = some (.string key) ∧ w'.cell? ⟨g6, 1, none⟩ = some (.slice A1 vs.length c1) ∧ w'.heap[g6]? = some (.cells #[.string key, .slice A1 vs.length c1] 67 (0, 0)) ∧ Kd.R k69 69 w' w.heap.size (fun _ => True) u4 acc ∧ Below w.heap.size w w') (by kernel_rfl) (by kernel_rfl) ⟨p0c, c60, c61, B6.out, Kd.R_drew hR1, below_drew hB1⟩ ?_
            clear hB1 hR1
            repeat ((with_reducible refine wpQuiet_step (fun K hK => ?_)); go_simp; (try rw [if_neg (fun h => by cases h)]); first | (with_reducible refine hK _ ?_; clear hK K) | (apply Exists.intro; with_reducible refine And.intro (fun _ => ?_) ?_; (first | with_reducible rfl | exact HCL.out _); with_reducible refine hK _ ?_; clear hK K))
            refine wpQuiet_nil ?_
            intro _ hw'
            obtain ⟨p, hw''⟩ := hw'
            subst hw''
            have hH := p.h
            clear HSK HCL qp qk qv
            revert hH
            generalize p.w = w'
            intro hH
            have B6' := Aside0.mk hH.2.2.2.1
            have HR' := Aside0.mk hH.2.2.2.2.1
            have HB' := Aside0.mk hH.2.2.2.2.2
            have c60' := hH.2.1
            have c61' := hH.2.2.1
            clear hH HB HR B6 c60 c61
            have hvl : (vs.length : Int) ≤ 9223372036854775807 := by have := (HCV.out _ HB'.out).2.1; omega
            have HVL := Aside0.mk hvl
            clear hvl
            go_wp2
            go_loopg [4, 37] vs.length (fun gg s4 s37 wr => ∃ j : Nat, j ≤ vs.length ∧ vs.length - j ≤ gg ∧ s37 = .int .i64 j ∧ Aside0 (Below w.heap.size w wr) ∧ Aside0 (wr.heap[g6]? = some (.cells #[.string key, .slice A1 vs.length c1] 67 (0, 0))) ∧ Aside0 (Kd.R k69 69 wr w.heap.size (fun _ => True) s4 (acc ++ pairsRow key (vs.take j))))
            case atStart => exact ⟨0, Nat.zero_le _, by omega, rfl, HB', B6', ⟨by rw [List.take_zero]; simpa [pairsRow] using HR'.out⟩⟩
            case round =>
              obtain ⟨j, hj, hgj, rfl, HB, B6, HR⟩ := hrel
              have hvz := HVL.out
              by_cases hjl : j < vs.length
              · have hjz : (j : Int) < (vs.length : Int) := by omega
                obtain ⟨ad5, e5, h0, h1, h2⟩ := at_T80 (HCV.out _ HB.out) (j : Int) (by omega) hjz
                rw [rdT80_get vs j hjl] at h0 h1 h2
                simp only [Int.toNat_natCast] at h0 h1 h2
                have hok := List.all_eq_true.1 HVS.out vs[j] (List.getElem_mem hjl)
                rw [decide_eq_true_iff] at hok
                have hst := pairsRow_take key vs j hjl
                obtain ⟨x0, x1, x2, hx⟩ : ∃ x0 x1 x2, vs[j] = ⟨x0, x1, x2⟩ := ⟨_, _, _, rfl⟩
                rw [hx] at h0 h1 h2 hok hst
                simp only at h0 h1 h2 hok hst
                obtain ⟨pk0, hpk⟩ : ∃ q, pairKey key x0 = q := ⟨_, rfl⟩
                obtain ⟨pv0, hpv⟩ : ∃ q, pairVal ⟨x0, x1, x2⟩ = q := ⟨_, rfl⟩
                rw [hpk, hpv] at hst
                have HPK := Aside0.mk (show pairKey key (⟨x0, x1, x2⟩ : S80).f0 = pk0 from hpk)
                have HPV := Aside0.mk hpv
                have HX1 := Aside0.mk (show (⟨x0, x1, x2⟩ : S80).f1.size ≤ 9223372036854775806 from hok.1)
                have HX0 := Aside0.mk (show 0 ≤ (⟨x0, x1, x2⟩ : S80).f0 from hok.2.1)
                have HX2 := Aside0.mk (show (⟨x0, x1, x2⟩ : S80).f0 ≤ 1152921504606846976 from hok.2.2)
                obtain ⟨acc5, ha5⟩ : ∃ q, acc ++ pairsRow key (vs.take j) = q := ⟨_, rfl⟩
                have hal : acc5.length = acc.length + j := by rw [← ha5]; simp [pairsRow]; omega
                have hl32 : (acc5.length + 1) * 32 ≤ 140737488355328 := by have := HLN0.out; omega
                have HLN := Aside0.mk hl32
                have HST := Aside0.mk (show acc ++ pairsRow key (vs.take (j + 1)) = acc5 ++ [⟨pk0, pv0⟩] by rw [hst, ← List.append_assoc, ha5])
                rw [ha5] at HR
                obtain ⟨v5, hv5⟩ : ∃ q, q = u4 := ⟨_, rfl⟩
                rw [← hv5] at HR ⊢
                clear hok hst hpk hpv hx ha5 hal hl32 hv5
                cases e5
                go_wp2_with (first | ((with_reducible refine gate_dst (N := 8) rfl ?_); refine box_event ?hg (N := 8) ?hd (cs := #[.int .i64 0, .string ⟨#[]⟩, .bool false]) (t := 80) ?hr ?_; (case hd => rfl); (case hg => rfl); (case hr => first | (go_simp; done) | (go_simp; rfl)); intro g8 hg w4 hbox hb; have G8 := Aside0.mk (show w.heap.size ≤ g8 from (by rw [hg]; exact HB.out.size)); have H68 := Aside0.mk (show g6 ≠ g8 from fun e => absurd (blk_lt B6.out) (by omega)); have B8 := Aside0.mk hbox; clear hbox hg; have n0_ := Aside0.mk (below_then HB.out HB.out.size hb); have n1_ := Aside0.mk ((hb.block _ (blk_lt B6.out)).trans B6.out); have n2_ := Aside0.mk (Kd.R_below HR.out hb); clear HB B6 HR; have HB := n0_; have B6 := n1_; have HR := n2_; clear n0_ n1_ n2_; clear hb) | ((with_reducible refine gate_store (t := 80) (p := 8) (v := .tmp 40) rfl ?_); go_must (refine sagg_event rfl 80 (.tmp 8) (.tmp 40) rfl rfl g8 #[.int .i64 x0, .string x1, .bool x2] _ _ rfl rfl B8.out (by kernel_rfl) rfl rfl ?_); intro w5 hbk hu; have nR_ := Aside0.mk (Kd.R_mono (Kd.R_step (Kd.R_types HR.out B8.out (by decide)) (fun k_ hk_ _ => hu.block k_ hk_.2)) (fun _ hk_ => hk_.1)); clear HR; have HR := nR_; clear nR_; have n0_ := Aside0.mk (hu.below HB.out G8.out); have n1_ := Aside0.mk (hu.blk B6.out H68.out); clear HB B6; have HB := n0_; have B6 := n1_; clear n0_ n1_; clear B8; have B8 := Aside0.mk hbk; have c60 := (blk_cell B6.out 0).trans rfl; have c80 := (blk_cell B8.out 0).trans rfl; have c81 := (blk_cell B8.out 1).trans rfl; have c82 := (blk_cell B8.out 2).trans rfl; clear hbk hu) | (go_at_call 54; go_must (refine (pair.calls key ⟨x0, x1, x2⟩ _ HKY.out HX1.out HX0.out HX2.out).mono ?_); rintro e w6 ⟨rfl, hb⟩; have n0_ := Aside0.mk (below_then HB.out HB.out.size hb); have n1_ := Aside0.mk ((hb.block _ (blk_lt B6.out)).trans B6.out); have n2_ := Aside0.mk (Kd.R_below HR.out hb); clear HB B6 HR; have HB := n0_; have B6 := n1_; have HR := n2_; clear n0_ n1_ n2_; rw [HPK.out, HPV.out]; clear hb) | ((with_reducible refine gate_builtin (b := .append) (xs := #[.tmp 41, .tmp 46]) rfl ?_); at_builtin; go_must (refine Kd.R_append k69 (w0 := w) w.heap.size rfl (.tmp 41) (.tmp 46) 43 69 (.agg #[(.string ⟨#[]⟩), (.string ⟨#[]⟩)]) 32 rfl Try.underlying43 info69 rfl (by decide) (by decide) v5 acc5 (⟨pk0, pv0⟩ : S69) [.string pk0, .string pv0] (fun _ => True) (fun _ => False) rfl rfl (k69_mkM _ _ _ (⟨pk0, pv0⟩ : S69)) (fun _ hk => hk.elim) (fun _ _ => trivial) HR.out HB.out HB.out.size HLN.out ?_); intro v1 w7 ho hb hg hat; have n1_ := Aside0.mk (blk_grown B6.out hg (Kd.R_ne HR.out B6.out (by decide))); clear HB B6 HR; have HB := Aside0.mk hb; have B6 := n1_; clear n1_; have HR := Aside0.mk ho; clear ho hb hg hat))
                go_roundg (vs.length - (j + 1))
                case measure => omega
                case rel => exact ⟨j + 1, by omega, by omega, by go_num, HB, B6, ⟨by rw [HST.out]; exact HR.out⟩⟩
              · have hjz : ¬ (j : Int) < (vs.length : Int) := by omega
                have HR2 : Aside0 (Kd.R k69 69 wr w.heap.size (fun _ => True) u4 (acc ++ pairsRow key vs)) := ⟨by have := HR.out; rwa [List.take_of_length_le (by omega)] at this⟩
                clear HR
                go_wp2
                go_roundg (l0.length - (m + 1 + 1))
                case measure => omega
                case rel => exact ⟨m + 1 + 1, acc ++ pairsRow key vs, by omega, by have := HLN0.out; simp [pairsRow]; omega, by omega, by go_num, HB, HR2, ⟨by have := HF1.out; rwa [show l0.length - (m + 1 + 1) = n by omega]⟩⟩
          · have hq2 : ltS pk key = false := by simpa using hq
            have hq' : Op.bytesLess pk.toList key.toList = false := hq2
            rw [if_pos ⟨by omega, by rw [show m + 1 - 1 = m from rfl, hpk]; exact hq2⟩] at HF0
            simp only [Option.some.injEq, Prod.mk.injEq] at HF0
            obtain ⟨rfl, rfl⟩ := HF0
            clear hq hq2 hpk
            go_wp2_with (first | ((with_reducible refine gate_dst (N := 6) rfl ?_); refine box_event ?hg (N := 6) ?hd (cs := #[.string ⟨#[]⟩, .slice none 0 0]) (t := 67) ?hr ?_; (case hd => rfl); (case hg => rfl); (case hr => first | (go_simp; done) | (go_simp; rfl)); intro g6 hg w1 hbox hb; have G6 := Aside0.mk (show w.heap.size ≤ g6 from (by rw [hg]; exact HB.out.size)); have B6 := Aside0.mk hbox; clear hbox hg; have n0_ := Aside0.mk (below_then HB.out HB.out.size hb); have n1_ := Aside0.mk (Kd.R_below HR.out hb); clear HB HR; have HB := n0_; have HR := n1_; clear n0_ n1_; clear hb) | ((with_reducible refine gate_store (t := 67) (p := 6) (v := .tmp 15) rfl ?_); go_must (refine sagg_event rfl 67 (.tmp 6) (.tmp 15) rfl rfl g6 #[.string key, .slice A1 vs.length c1] _ _ rfl rfl B6.out (by kernel_rfl) rfl rfl ?_); intro w2 hbk hu; have nR_ := Aside0.mk (Kd.R_mono (Kd.R_step (Kd.R_types HR.out B6.out (by decide)) (fun k_ hk_ _ => hu.block k_ hk_.2)) (fun _ hk_ => hk_.1)); clear HR; have HR := nR_; clear nR_; have n0_ := Aside0.mk (hu.below HB.out G6.out); clear HB; have HB := n0_; clear n0_; clear B6; have B6 := Aside0.mk hbk; have c60 := (blk_cell B6.out 0).trans rfl; have c61 := (blk_cell B6.out 1).trans rfl; have p0c := (HB.out.cell (World.block_lt_of_cell? w _ PW.out)).trans PW.out; clear hbk hu))
            have hB1 := HB.out
            have hR1 := HR.out
            have qp : ∀ p : Held (fun w' => w'.cell? (ad.add (m * 2)) = some (.string pk) ∧ w'.cell? ⟨g6, 0, none⟩ = some (.string key) ∧ w'.cell? ⟨g6, 1, none⟩ = some (.slice A1 vs.length c1) ∧ w'.heap[g6]? = some (.cells #[.string key, .slice A1 vs.length c1] 67 (0, 0)) ∧ Kd.R k69 69 w' w.heap.size (fun _ => True) u4 acc ∧ Below w.heap.size w w'), p.w.cell? (ad.add (m * 2)) = some (.string pk) := fun p => p.h.1
            have qk : ∀ p : Held (fun w' => w'.cell? (ad.add (m * 2)) = some (.string pk) ∧ w'.cell? ⟨g6, 0, none⟩ = some (.string key) ∧ w'.cell? ⟨g6, 1, none⟩ = some (.slice A1 vs.length c1) ∧ w'.heap[g6]? = some (.cells #[.string key, .slice A1 vs.length c1] 67 (0, 0)) ∧ Kd.R k69 69 w' w.heap.size (fun _ => True) u4 acc ∧ Below w.heap.size w w'), p.w.cell? ⟨g6, 0, none⟩ = some (.string key) := fun p => p.h.2.1
            have qv : ∀ p : Held (fun w' => w'.cell? (ad.add (m * 2)) = some (.string pk) ∧ w'.cell? ⟨g6, 0, none⟩ = some (.string key) ∧ w'.cell? ⟨g6, 1, none⟩ = some (.slice A1 vs.length c1) ∧ w'.heap[g6]? = some (.cells #[.string key, .slice A1 vs.length c1] 67 (0, 0)) ∧ Kd.R k69 69 w' w.heap.size (fun _ => True) u4 acc ∧ Below w.heap.size w w'), p.w.cell? ⟨g6, 1, none⟩ = some (.slice A1 vs.length c1) := fun p => p.h.2.2.1
            have HSK := Aside0.mk (fun (p : Held (fun w' => w'.cell? (ad.add (m * 2)) = some (.string pk) ∧ w'.cell? ⟨g6, 0, none⟩ = some (.string key) ∧ w'.cell? ⟨g6, 1, none⟩ = some (.slice A1 vs.length c1) ∧ w'.heap[g6]? = some (.cells #[.string key, .slice A1 vs.length c1] 67 (0, 0)) ∧ Kd.R k69 69 w' w.heap.size (fun _ => True) u4 acc ∧ Below w.heap.size w w')) (w' : World) (hb : Below p.w.heap.size p.w w') => show (fun w' => w'.cell? (ad.add (m * 2)) = some (.string pk) ∧ w'.cell? ⟨g6, 0, none⟩ = some (.string key) ∧ w'.cell? ⟨g6, 1, none⟩ = some (.slice A1 vs.length c1) ∧ w'.heap[g6]? = some (.cells #[.string key, .slice A1 vs.length c1] 67 (0, 0)) ∧ Kd.R k69 69 w' w.heap.size (fun _ => True) u4 acc ∧ Below w.heap.size w w') w' from ⟨pw_cell_below hb p.h.1, pw_cell_below hb p.h.2.1, pw_cell_below hb p.h.2.2.1, (hb.block _ (blk_lt (p.h.2.2.2.1))).trans (p.h.2.2.2.1), Kd.R_below (p.h.2.2.2.2.1) hb, below_then (p.h.2.2.2.2.2) (Below.size (p.h.2.2.2.2.2)) hb⟩)
            have HCL := Aside0.mk (fun (p : Held (fun w' => w'.cell? (ad.add (m * 2)) = some (.string pk) ∧ w'.cell? ⟨g6, 0, none⟩ = some (.string key) ∧ w'.cell? ⟨g6, 1, none⟩ = some (.slice A1 vs.length c1) ∧ w'.heap[g6]? = some (.cells #[.string key, .slice A1 vs.length c1] 67 (0, 0)) ∧ Kd.R k69 69 w' w.heap.size (fun _ => True) u4 acc ∧ Below w.heap.size w w')) => Held.call (batch_may.calls k key A1 c1 vs true p.w (HCV.out _ (p.h.2.2.2.2.2)) HLV.out HMY.out) (HSK.out p))
            refine wp_region_quiet_held (fun w' => w'.cell? (ad.add (m * 2)) = some (.string pk) ∧ w'.cell? ⟨g6, 0, none⟩ = some (.string key) ∧ w'.cell? ⟨g6, 1, none⟩ = some (.slice A1 vs.length c1) ∧ w'.heap[g6]? = some (.cells #[.string key, .slice A1 vs.length c1] 67 (0, 0)) ∧ Kd.R k69 69 w' w.heap.size (fun _ => True) u4 acc ∧ Below w.heap.size w w') (by kernel_rfl) (by kernel_rfl) ⟨p0c, c60, c61, B6.out, Kd.R_drew hR1, below_drew hB1⟩ ?_
            clear hB1 hR1
            repeat ((with_reducible refine wpQuiet_step (fun K hK => ?_)); go_simp; (try rw [if_neg (fun h => by cases h)]); first | (with_reducible refine hK _ ?_; clear hK K) | (apply Exists.intro; with_reducible refine And.intro (fun _ => ?_) ?_; (first | with_reducible rfl | exact HCL.out _); with_reducible refine hK _ ?_; clear hK K))
            refine wpQuiet_nil ?_
            intro _ hw'
            obtain ⟨p, hw''⟩ := hw'
            subst hw''
            have hH := p.h
            clear HSK HCL qp qk qv
            revert hH
            generalize p.w = w'
            intro hH
            have B6' := Aside0.mk hH.2.2.2.1
            have HR' := Aside0.mk hH.2.2.2.2.1
            have HB' := Aside0.mk hH.2.2.2.2.2
            have c60' := hH.2.1
            have c61' := hH.2.2.1
            clear hH HB HR B6 c60 c61
            go_wp2
            go_ret2
            exact ⟨_, rfl, Kd.R_nil _ _ _ _ _, HB'.out⟩
    · have hiz : ¬ (i : Int) < (l0.length : Int) := by omega
      have HF0 := HF.out
      rw [show l0.length - i = 0 by omega, pairsL] at HF0
      simp only [Option.some.injEq, Prod.mk.injEq] at HF0
      obtain ⟨rfl, rfl⟩ := HF0
      have HSC := Aside0.mk (fun W (h : Kd.R k69 69 W w.heap.size (fun _ => True) u4 acc) => SortFunc69.calls w.heap.size (fun _ => True) u4 acc W h (by have := HAL.out; omega))
      go_wp2_with (go_at_call 55; go_must (refine (HSC.out _ HR.out).mono ?_); rintro e w9 ⟨rfl, hR, hb⟩; have HB9 := Aside0.mk (HB.out.trans hb); have HR9 := Aside0.mk hR; clear hR hb)
      go_ret2
      exact ⟨_, rfl, HR9.out, HB9.out⟩
end Go.Proofs.Ytehcmedeeaoebaa.PB
end
section
namespace Go.Proofs.Ytehcmedeeaoebaa.PB
open Go.RowKit Go.Proofs.YtehcmedeeaoebaaW.PrintWords Go.Proofs.YtehcmedeeaoebaaW.PrintLast Go.Proofs.YtehcmedeeaoebaaW.PrintMore
attribute [local go_sem] max2_int min2_int max_two min_two max_three min_three max_four min_four
set_option linter.unusedVariables false
set_option linter.unusedSimpArgs false
def ambrylaw15_few.l0 : Nat → List (S67) → Int → Int → Option (Bool)
  | 0, _, _, _ => none
  | k + 1, x0, x3, x4 => if x4 < (x0.length : Int) then (if x3 < 300 then (if 0 ≤ x4 then (ambrylaw15_few.l0 k x0 (wrap64 (x3 + (((rd_T67 x0 x4).f1).length : Int))) (wrap64 (x4 + 1))) else (none)) else (some (decide (x3 < 300)))) else (some (decide (x3 < 300)))
def ambrylaw15_few.f (k : Nat) (l0 : List (S67)) : Option (Bool) := ambrylaw15_few.l0 k l0 (l0.length : Int) 0
theorem ambrylaw15_few.mono_l : ∀ k, (∀ y0 y1 y2, LeO (ambrylaw15_few.l0 k y0 y1 y2) (ambrylaw15_few.l0 (k + 1) y0 y1 y2))
  | 0 => fun _ _ _ r h => by simp [ambrylaw15_few.l0] at h
  | k + 1 => by
    have ih0 := ambrylaw15_few.mono_l k
    · intro y0 y1 y2
      unfold ambrylaw15_few.l0
      repeat' first
      | (with_reducible exact ih0 _ _ _)
      | (with_reducible exact LeO.refl _)
      | (with_reducible exact LeO.none _)
      | (with_reducible refine LeO.ite ?_ ?_)
      | (with_reducible refine LeO.bind ?_ (fun _ => ?_))
      | exact ih0 _ _ _
      | exact LeO.none _
      | refine LeO.ite ?_ ?_
      | refine LeO.bind ?_ (fun _ => ?_)
theorem ambrylaw15_few.mono : ∀ a0 k, LeO (ambrylaw15_few.f k a0) (ambrylaw15_few.f (k + 1) a0) := by
  intro a0 k
  have ih0 := ambrylaw15_few.mono_l k
  unfold ambrylaw15_few.f
  repeat' first
      | (with_reducible exact ih0 _ _ _)
      | (with_reducible exact LeO.refl _)
      | (with_reducible exact LeO.none _)
      | (with_reducible refine LeO.ite ?_ ?_)
      | (with_reducible refine LeO.bind ?_ (fun _ => ?_))
      | exact ih0 _ _ _
      | exact LeO.none _
      | refine LeO.ite ?_ ?_
      | refine LeO.bind ?_ (fun _ => ?_)
set_option maxHeartbeats 8000000 in
set_option maxRecDepth 100000 in
theorem ambrylaw15_few.calls (k : Nat) (A0 : Option Addr) (c0 : Nat) (l0 : List (S67)) (r : Bool) (w : World) (hr0 : Kd.C k67 w A0 l0.length l0) (hc0 : l0.length ≤ c0) (h : ambrylaw15_few.f k l0 = some r) :
    Calls Try.prog 27 #[.slice A0 l0.length c0] w fun e w' => e = .returned (.bool r) ∧ Drawn0 w w' := by
  have HR0 := Aside0.mk hr0
  have HC0 := Aside0.mk hc0
  clear hr0 hc0
  have H : (ambrylaw15_few.l0 k l0 (l0.length : Int) 0) = some r := h
  clear h
  have H' := Aside0.mk H
  clear H
  go_enter Try.func27, Try.ntmps27
  go_wp2
  go_loopg [3, 4] k (fun kq v3 v4 w' => ∃ (x3_1 : Int) (x4_1 : Int), v3 = .int .i64 x3_1 ∧ v4 = .int .i64 x4_1 ∧ Aside0 (ambrylaw15_few.l0 kq l0 x3_1 x4_1 = some r) ∧ Aside0 (kq ≤ k) ∧ Drawn0 w w')
  case atStart => exact ⟨((l0.length : Int)), (0), (by first | rfl | (simp; done) | (simp [*]; done)), (by first | rfl | (simp; done) | (simp [*]; done)), H', ⟨Nat.le_refl _⟩, by repeat (first | exact Drawn0.refl _ | apply Drawn0.step)⟩
  case round =>
    clear H'
    obtain ⟨x3_1, x4_1, rfl, rfl, HA, HK1, ⟨m1, rfl⟩⟩ := hrel
    cases gk with
    | zero => exact absurd HA.out (by simp [ambrylaw15_few.l0])
    | succ k1 =>
      have H := HA.out
      clear HA
      simp only [ambrylaw15_few.l0] at H
      by_cases c2 : x4_1 < (l0.length : Int)
      · rw [if_pos c2] at H
        have c2b0 : decide (x4_1 < (l0.length : Int)) = true := decide_eq_true c2
        clear c2
        by_cases c3 : x3_1 < 300
        · rw [if_pos c3] at H
          have c3b0 : decide (x3_1 < 300) = true := decide_eq_true c3
          clear c3
          by_cases c4 : 0 ≤ x4_1
          · rw [if_pos c4] at H
            have c4b0 : decide (0 ≤ x4_1) = true := decide_eq_true c4
            clear c4
            have H' := Aside0.mk H
            clear H
            have p374 : 0 ≤ (x4_1 : Int) := of_decide_eq_true (by first | (with_reducible assumption) | assumption)
            have q374 : x4_1 < (l0.length : Int) := of_decide_eq_true (by first | (with_reducible assumption) | assumption)
            obtain ⟨ad374, A374_1, c374_1, e374, hx374_0, hx374_1, hl374_1, hi374_1⟩ := at_T67 HR0.out x4_1 p374 q374
            cases e374
            have HR374_1 := Aside0.mk hi374_1
            have HC374_1 := Aside0.mk hl374_1
            clear hi374_1 hl374_1
            replace p374 := eq_true p374
            replace q374 := eq_true q374
            go_wp2
            go_roundg k1
            case measure => have := HK1.out; omega
            case rel => exact ⟨(wrap64 (x3_1 + (((rd_T67 l0 x4_1).f1).length : Int))), (wrap64 (x4_1 + 1)), (by first | rfl | (simp; done) | (simp [*]; done)), (by first | rfl | (simp; done) | (simp [*]; done)), H', ⟨by have := HK1.out; omega⟩, by repeat (first | exact Drawn0.refl _ | apply Drawn0.step)⟩
          · rw [if_neg c4] at H
            exact absurd H (by simp)
        · rw [if_neg c3] at H
          have c3b0 : decide (x3_1 < 300) = false := decide_eq_false c3
          clear c3
          obtain rfl := Option.some.inj H
          go_wp2
          go_ret
          exact ⟨by first | rfl | (simp; done) | (simp [*]; done), by repeat (first | exact Drawn0.refl _ | apply Drawn0.step)⟩
      · rw [if_neg c2] at H
        have c2b0 : decide (x4_1 < (l0.length : Int)) = false := decide_eq_false c2
        clear c2
        obtain rfl := Option.some.inj H
        go_wp2
        go_ret
        exact ⟨by first | rfl | (simp; done) | (simp [*]; done), by repeat (first | exact Drawn0.refl _ | apply Drawn0.step)⟩
end Go.Proofs.Ytehcmedeeaoebaa.PB
end
section
namespace Go.Proofs.Ytehcmedeeaoebaa.PB
open Go.RowKit Go.Proofs.YtehcmedeeaoebaaW.PrintWords Go.Proofs.YtehcmedeeaoebaaW.PrintLast Go.Proofs.YtehcmedeeaoebaaW.PrintMore
set_option linter.unusedVariables false
def rightV (v : S80) : Bool := decide (1 ≤ v.f0) && (decide (v.f0 ≤ 1152921504606846976) && (decide (v.f1.size ≤ 200) && (!v.f2 || (v.f1.toList == ([] : List UInt8)))))
theorem chain_right_f (v : S80) : chain_right.f v.f0 v.f1 v.f2 = some (rightV v) := by
  unfold chain_right.f rightV
  by_cases c1 : 1 ≤ v.f0
  · by_cases c2 : v.f0 ≤ 1152921504606846976
    · by_cases c3 : v.f1.size ≤ 200
      · rw [if_pos c1, if_pos c2, if_pos (by omega), decide_eq_true c1, decide_eq_true c2, decide_eq_true c3]
        cases v.f2 <;> simp
      · rw [if_pos c1, if_pos c2, if_neg (by omega), decide_eq_false c3]; simp
    · rw [if_pos c1, if_neg c2, decide_eq_false c2]; simp
  · rw [if_neg c1, decide_eq_false c1]; simp
def under : Option Int → Int → Bool
  | none, _ => true
  | some t, v => decide (v < t)
def chainP (p : Option Int) : List S80 → Bool
  | [] => true
  | v :: r => rightV v && (under p v.f0 && chainP (some v.f0) r)
theorem chainP_cons (p : Option Int) (v : S80) (r : List S80) : chainP p (v :: r) = (rightV v && (under p v.f0 && chainP (some v.f0) r)) := rfl
def before (vs : List S80) (i : Nat) : Option Int := if h : 0 < i ∧ i - 1 < vs.length then some (vs[i - 1]'h.2).f0 else none
theorem rd80 (l : List S80) (i : Nat) (h : i < l.length) : rd_T80 l (i : Int) = l[i] := by simp [rd_T80, List.getD_eq_getElem?_getD, h]
theorem rd67 (l : List S67) (i : Nat) (h : i < l.length) : rd_T67 l (i : Int) = l[i] := by simp [rd_T67, List.getD_eq_getElem?_getD, h]
theorem chain_loop (vs : List S80) (hl : vs.length ≤ 140737488351232) : ∀ n i, i + n = vs.length → Ev (fun k => chain_Check.l0 k vs vs (vs.length : Int) (i : Int)) (if chainP (before vs i) (vs.drop i) = true then 0 else 4) := by
  intro n
  induction n with
  | zero =>
    intro i hi
    rw [List.drop_of_length_le (by omega)]
    exact Ev.step (Ev.const _) fun k => by simp only [chain_Check.l0]; rw [if_neg (by omega)]; rfl
  | succ n ih =>
    intro i hi
    have hil : i < vs.length := by omega
    have hnext : before vs (i + 1) = some vs[i].f0 := by unfold before; rw [dif_pos ⟨by omega, by omega⟩]; rfl
    rw [List.drop_eq_getElem_cons hil, chainP_cons]
    have hi1 := ih (i + 1) (by omega)
    rw [hnext] at hi1
    cases hr : rightV vs[i] with
    | false =>
      rw [if_neg (by simp)]
      exact Ev.step (Ev.const _) fun k => by
        simp only [chain_Check.l0]; rw [if_pos (by omega), if_pos (by omega), if_pos (by omega), rd80 vs i hil, chain_right_f, hr, Option.bind_some, if_neg (by simp)]
    | true =>
      cases i with
      | zero =>
        have e0 : before vs 0 = none := by unfold before; rw [dif_neg (by omega)]
        rw [e0]
        simp only [under, Bool.true_and]
        refine Ev.step hi1 fun k => ?_
        simp only [chain_Check.l0]
        rw [if_pos (by omega), if_pos (by omega), if_pos (by omega), rd80 vs 0 hil, chain_right_f, hr, Option.bind_some, if_pos (by trivial), if_neg (by omega), w64 (by omega) (by omega)]
        rfl
      | succ j =>
        have e0 : before vs (j + 1) = some (vs[j]'(by omega)).f0 := by unfold before; rw [dif_pos ⟨by omega, by omega⟩]; rfl
        have e1 : wrap64 (((j + 1 : Nat) : Int) - 1) = (j : Int) := by rw [w64 (by omega) (by omega)]; omega
        rw [e0]
        simp only [under, Bool.true_and]
        by_cases c : vs[j + 1].f0 < (vs[j]'(by omega)).f0
        · rw [decide_eq_true c, Bool.true_and]
          refine Ev.step hi1 fun k => ?_
          simp only [chain_Check.l0]
          rw [if_pos (by omega), if_pos (by omega), if_pos (by omega), rd80 vs (j + 1) hil, chain_right_f, hr, Option.bind_some, if_pos (by trivial), if_pos (by omega), e1, if_pos (by omega), if_pos (by omega), rd80 vs j (by omega), if_neg (by omega), w64 (by omega) (by omega)]
          rfl
        · rw [decide_eq_false c, Bool.false_and, if_neg (by simp)]
          refine Ev.step (Ev.const _) fun k => ?_
          simp only [chain_Check.l0]
          rw [if_pos (by omega), if_pos (by omega), if_pos (by omega), rd80 vs (j + 1) hil, chain_right_f, hr, Option.bind_some, if_pos (by trivial), if_pos (by omega), e1, if_pos (by omega), if_pos (by omega), rd80 vs j (by omega), if_pos (by omega)]
def mayB (key : ByteArray) (vs : List S80) : Bool := decide (key.size ≤ 120) && (decide (0 < vs.length) && (chainP none vs && !(vs.any longV)))
theorem may_ev (key : ByteArray) (vs : List S80) (hl : vs.length ≤ 140737488351232) : Ev (fun k => batch_may.f k key vs) (mayB key vs) := by
  unfold batch_may.f mayB
  by_cases c1 : key.size ≤ 120
  · simp only [if_pos c1, decide_eq_true c1, Bool.true_and]
    by_cases c2 : 0 < vs.length
    · simp only [if_pos c2, decide_eq_true c2, Bool.true_and]
      have hc := chain_loop vs hl vs.length 0 (by omega)
      have e0 : before vs 0 = none := by unfold before; rw [dif_neg (by omega)]
      rw [e0, List.drop_zero] at hc
      refine Ev.bind (show Ev (fun k => chain_Check.f k vs) _ from hc) ?_
      cases chainP none vs with
      | true => simp only [if_true, Bool.true_and]; exact Ev.const _
      | false => simp only [Bool.false_eq_true, if_false, Bool.false_and, if_neg (show ¬ (4 : Int) = 0 by omega)]; exact Ev.const _
    · simp only [if_neg c2, decide_eq_false c2, Bool.false_and]; exact Ev.const _
  · simp only [if_neg c1, decide_eq_false c1, Bool.false_and]; exact Ev.const _
theorem chainP_facts : ∀ {vs : List S80} {p : Option Int}, chainP p vs = true → (∀ v ∈ vs, rightV v = true ∧ ∀ t, p = some t → v.f0 < t) ∧ vs.Pairwise (fun a b => b.f0 < a.f0)
  | [], p, _ => ⟨by simp, List.Pairwise.nil⟩
  | v :: r, p, h => by
    rw [chainP_cons, Bool.and_eq_true, Bool.and_eq_true] at h
    obtain ⟨h1, h2, h3⟩ := h
    obtain ⟨i1, i2⟩ := chainP_facts h3
    have hp : ∀ t, p = some t → v.f0 < t := by
      intro t e
      subst e
      exact of_decide_eq_true h2
    refine ⟨fun x hx => ?_, List.pairwise_cons.2 ⟨fun x hx => (i1 x hx).2 _ rfl, i2⟩⟩
    rcases List.mem_cons.1 hx with rfl | hx
    · exact ⟨h1, hp⟩
    · exact ⟨(i1 x hx).1, fun t e => by have := (i1 x hx).2 _ rfl; have := hp t e; omega⟩
theorem mayB_facts {key : ByteArray} {vs : List S80} (h : mayB key vs = true) : key.size ≤ 120 ∧ 0 < vs.length ∧ (∀ v ∈ vs, okV v) ∧ vs.Pairwise (fun a b => b.f0 < a.f0) := by
  unfold mayB at h
  simp only [Bool.and_eq_true] at h
  obtain ⟨h1, h2, h3, h4⟩ := h
  obtain ⟨c1, c2⟩ := chainP_facts h3
  refine ⟨of_decide_eq_true h1, of_decide_eq_true h2, fun v hv => ?_, c2⟩
  have hr := (c1 v hv).1
  have hlong : ¬ 199 < v.f1.size := by
    intro hn
    rw [Bool.not_eq_true'] at h4
    have := List.any_eq_false.1 h4 v hv
    exact this (by unfold longV; exact decide_eq_true hn)
  unfold rightV at hr
  simp only [Bool.and_eq_true, decide_eq_true_eq, Bool.or_eq_true, Bool.not_eq_true', beq_iff_eq] at hr
  refine ⟨hr.1, hr.2.1, by omega, fun hd => ?_⟩
  rcases hr.2.2.2 with e | e
  · rw [hd] at e; cases e
  · rw [Lib.toList_data] at e
    exact ByteArray.ext (Array.toList_inj.1 e)
def totV (l : List S67) : Nat := (l.map fun x => x.f1.length).sum
theorem few_loop (l : List S67) (hl : l.length ≤ 140737488351232) (hv : ∀ x ∈ l, x.f1.length ≤ 140737488351232) : ∀ n i (a : Nat), i + n = l.length → a ≤ 1000000000000000 → Ev (fun k => ambrylaw15_few.l0 k l (a : Int) (i : Int)) (decide (a + totV (l.drop i) < 300)) := by
  intro n
  induction n with
  | zero =>
    intro i a hi ha
    rw [List.drop_of_length_le (by omega)]
    refine Ev.step (Ev.of_eq (o := some (decide ((a : Int) < 300))) ?_) fun k => by simp only [ambrylaw15_few.l0]; rw [if_neg (by omega)]
    have e : totV [] = 0 := rfl
    rw [e]
    by_cases c : a < 300
    · rw [decide_eq_true (show (a : Int) < 300 by omega), decide_eq_true (show a + 0 < 300 by omega)]
    · rw [decide_eq_false (show ¬ (a : Int) < 300 by omega), decide_eq_false (show ¬ a + 0 < 300 by omega)]
  | succ n ih =>
    intro i a hi ha
    have hil : i < l.length := by omega
    have hx := hv _ (List.getElem_mem hil)
    have ht : totV (l.drop i) = l[i].f1.length + totV (l.drop (i + 1)) := by rw [List.drop_eq_getElem_cons hil]; rfl
    by_cases c : a < 300
    · have := ih (i + 1) (a + l[i].f1.length) (by omega) (by omega)
      rw [ht, show a + (l[i].f1.length + totV (l.drop (i + 1))) = a + l[i].f1.length + totV (l.drop (i + 1)) by omega]
      refine Ev.step this fun k => ?_
      simp only [ambrylaw15_few.l0]
      rw [if_pos (by omega), if_pos (by omega), if_pos (by omega), rd67 l i hil, w64 (by omega) (by omega), w64 (by omega) (by omega)]
      rfl
    · rw [decide_eq_false (by omega)]
      refine Ev.step (Ev.of_eq (o := some (decide ((a : Int) < 300))) (by rw [decide_eq_false (by omega)])) fun k => ?_
      simp only [ambrylaw15_few.l0]
      rw [if_pos (by omega), if_neg (by omega)]
theorem few_ev (l : List S67) (hl : l.length ≤ 140737488351232) (hv : ∀ x ∈ l, x.f1.length ≤ 140737488351232) : Ev (fun k => ambrylaw15_few.f k l) (decide (l.length + totV l < 300)) := by
  have := few_loop l hl hv l.length 0 l.length (by omega) (by omega)
  rw [List.drop_zero] at this
  exact this
def over : Option ByteArray → ByteArray → Bool
  | none, _ => true
  | some q, k => ltS q k
def itemsOk (p : Option ByteArray) : List S67 → Bool
  | [] => true
  | x :: r => mayB x.f0 x.f1 && (over p x.f0 && itemsOk (some x.f0) r)
theorem itemsOk_cons (p : Option ByteArray) (x : S67) (r : List S67) : itemsOk p (x :: r) = (mayB x.f0 x.f1 && (over p x.f0 && itemsOk (some x.f0) r)) := rfl
theorem itemsOk_nil (p : Option ByteArray) : itemsOk p [] = true := rfl
def ahead67 (l : List S67) (i : Nat) : Option ByteArray := if 0 < i then some (itemAt l (i - 1)).f0 else none
def rowsOf (l : List S67) : List S69 := l.flatMap fun x => pairsRow x.f0 x.f1
theorem itemAt_get (l : List S67) (i : Nat) (h : i < l.length) : itemAt l i = l[i] := by simp [itemAt, List.getD_eq_getElem?_getD, h]
theorem pairs_loop (l : List S67) (ht : totV l ≤ 1000) (hv : ∀ x ∈ l, x.f1.length ≤ 140737488351232) : ∀ n i acc, i + n = l.length → acc.length + totV (l.drop i) ≤ 1000 → Ev (fun k => pairsL k l n i acc) (if itemsOk (ahead67 l i) (l.drop i) = true then (sortP (acc ++ rowsOf (l.drop i)), 0) else ([], 2)) := by
  intro n
  induction n with
  | zero =>
    intro i acc hi _
    rw [List.drop_of_length_le (by omega), itemsOk_nil, if_pos rfl]
    simp only [pairsL, rowsOf, List.flatMap_nil, List.append_nil]
    exact Ev.const _
  | succ n ih =>
    intro i acc hi hacc
    have hil : i < l.length := by omega
    have hd := List.drop_eq_getElem_cons hil
    have hx := hv _ (List.getElem_mem hil)
    rw [hd] at hacc ⊢
    simp only [totV, List.map_cons, List.sum_cons] at hacc
    rw [itemsOk_cons]
    simp only [pairsL, itemAt_get l i hil]
    refine Ev.bind (may_ev _ _ hx) ?_
    cases hm : mayB l[i].f0 l[i].f1 with
    | false => simp only [Bool.false_eq_true, if_false, Bool.false_and]; exact Ev.const _
    | true =>
      simp only [if_true, Bool.true_and]
      obtain ⟨f1, f2, f3, f4⟩ := mayB_facts hm
      have hok : vsOk l[i].f1 = true := by
        unfold vsOk
        rw [List.all_eq_true]
        intro v hv
        obtain ⟨a, b, c, _⟩ := f3 v hv
        exact decide_eq_true ⟨by omega, by omega, by omega⟩
      have hn : ahead67 l (i + 1) = some l[i].f0 := by unfold ahead67; rw [if_pos (by omega), show i + 1 - 1 = i from rfl, itemAt_get l i hil]
      have hnext := ih (i + 1) (acc ++ pairsRow l[i].f0 l[i].f1) (by omega) (by simp only [List.length_append, pairsRow, List.length_map]; unfold totV; omega)
      rw [hn] at hnext
      have hrows : acc ++ rowsOf (l[i] :: l.drop (i + 1)) = acc ++ pairsRow l[i].f0 l[i].f1 ++ rowsOf (l.drop (i + 1)) := by unfold rowsOf; rw [List.flatMap_cons, List.append_assoc]
      rw [hrows]
      by_cases hi0 : 0 < i
      · have hp : ahead67 l i = some (itemAt l (i - 1)).f0 := by unfold ahead67; rw [if_pos hi0]
        have ho : over (ahead67 l i) l[i].f0 = ltS (itemAt l (i - 1)).f0 l[i].f0 := by rw [hp]; rfl
        rcases Bool.eq_false_or_eq_true (ltS (itemAt l (i - 1)).f0 l[i].f0) with hq | hq
        · rw [ho.trans hq, Bool.true_and]
          refine Ev.congr hnext fun k => ?_
          rw [if_neg (fun h => by rw [hq] at h; cases h.2), if_pos ⟨f1, hok, by omega⟩]
        · rw [ho.trans hq, Bool.false_and, if_neg (by simp)]
          refine Ev.congr (Ev.const _) fun k => ?_
          rw [if_pos ⟨hi0, hq⟩]
      · have hp : ahead67 l i = none := by unfold ahead67; rw [if_neg hi0]
        have ho : over (ahead67 l i) l[i].f0 = true := by rw [hp]; rfl
        rw [ho, Bool.true_and]
        refine Ev.congr hnext fun k => ?_
        rw [if_neg (fun h => hi0 h.1), if_pos ⟨f1, hok, by omega⟩]
theorem Pairs_ev (l : List S67) (ht : totV l ≤ 1000) (hv : ∀ x ∈ l, x.f1.length ≤ 140737488351232) : Ev (fun k => batch_Pairs.f k l) (if itemsOk none l = true then (sortP (rowsOf l), 0) else ([], 2)) := by
  have := pairs_loop l ht hv l.length 0 [] (by omega) (by simpa using ht)
  rw [List.drop_zero, List.nil_append] at this
  exact this
theorem itemsOk_facts : ∀ {l : List S67} {p : Option ByteArray}, itemsOk p l = true → (∀ x ∈ l, mayB x.f0 x.f1 = true ∧ ∀ q, p = some q → ltS q x.f0 = true) ∧ l.Pairwise (fun x y => ltS x.f0 y.f0 = true)
  | [], p, _ => ⟨by simp, List.Pairwise.nil⟩
  | x :: r, p, h => by
    rw [itemsOk_cons, Bool.and_eq_true, Bool.and_eq_true] at h
    obtain ⟨h1, h2, h3⟩ := h
    obtain ⟨i1, i2⟩ := itemsOk_facts h3
    have hp : ∀ q, p = some q → ltS q x.f0 = true := by
      intro q e
      subst e
      exact h2
    refine ⟨fun y hy => ?_, List.pairwise_cons.2 ⟨fun y hy => (i1 y hy).2 _ rfl, i2⟩⟩
    rcases List.mem_cons.1 hy with rfl | hy
    · exact ⟨h1, hp⟩
    · exact ⟨(i1 y hy).1, fun q e => ltS_trans (hp q e) ((i1 y hy).2 _ rfl)⟩
end Go.Proofs.Ytehcmedeeaoebaa.PB
end
section
namespace Go.Proofs.Ytehcmedeeaoebaa.PB
open Go.RowKit Go.Proofs.YtehcmedeeaoebaaW.PrintWords Go.Proofs.YtehcmedeeaoebaaW.PrintLast Go.Proofs.YtehcmedeeaoebaaW.PrintMore
set_option linter.unusedVariables false
theorem ltS_tri2 (a b : ByteArray) : ltS a b = true ∨ a = b ∨ ltS b a = true := by
  cases h1 : ltS a b with
  | true => exact Or.inl rfl
  | false =>
    cases h2 : ltS b a with
    | true => exact Or.inr (Or.inr rfl)
    | false => exact Or.inr (Or.inl (ltS_eq h1 h2))
theorem perm_sorted {α : Type} {r : α → α → Prop} (ha : ∀ a b, r a b → r b a → False) : ∀ {l m : List α}, l.Perm m → l.Pairwise r → m.Pairwise r → l = m
  | [], m, h, _, _ => by rw [List.nil_perm.1 h]
  | a :: l, [], h, _, _ => by have := h.length_eq; simp at this
  | a :: l, b :: m, h, hl, hm => by
    have e : a = b := by
      have h1 : a ∈ b :: m := h.mem_iff.1 List.mem_cons_self
      have h2 : b ∈ a :: l := h.mem_iff.2 List.mem_cons_self
      rcases List.mem_cons.1 h1 with h1 | h1
      · exact h1
      · rcases List.mem_cons.1 h2 with h2 | h2
        · exact h2.symm
        · exact absurd ((List.pairwise_cons.1 hl).1 b h2) (fun x => ha _ _ x ((List.pairwise_cons.1 hm).1 a h1))
    subst e
    rw [perm_sorted ha (List.Perm.cons_inv h) (List.pairwise_cons.1 hl).2 (List.pairwise_cons.1 hm).2]
abbrev KV := ByteArray × S80
def kvs (l : List S67) : List KV := l.flatMap fun x => x.f1.map fun v => (x.f0, v)
def ofKV (q : KV) : S69 := pairOf q.1 q.2
theorem rowsOf_kvs (l : List S67) : rowsOf l = (kvs l).map ofKV := by
  unfold rowsOf kvs pairsRow ofKV pairOf
  rw [List.map_flatMap]
  congr 1
  funext x
  rw [List.map_map]
  rfl
structure Good (l : List S67) : Prop where
  key : ∀ x ∈ l, x.f0.size ≤ 120
  full : ∀ x ∈ l, 0 < x.f1.length
  ok : ∀ x ∈ l, ∀ v ∈ x.f1, okV v
  falls : ∀ x ∈ l, x.f1.Pairwise fun a b => b.f0 < a.f0
  rises : l.Pairwise fun x y => ltS x.f0 y.f0 = true
theorem good_of {l : List S67} (h : itemsOk none l = true) : Good l := by
  obtain ⟨h1, h2⟩ := itemsOk_facts h
  exact ⟨fun x hx => (mayB_facts (h1 x hx).1).1, fun x hx => (mayB_facts (h1 x hx).1).2.1, fun x hx => (mayB_facts (h1 x hx).1).2.2.1, fun x hx => (mayB_facts (h1 x hx).1).2.2.2, h2⟩
theorem ltS_ne' {a b : ByteArray} (h : ltS a b = true) : a ≠ b := by
  intro e
  rw [e, ltS_irrefl] at h
  cases h
theorem kvs_mem {l : List S67} {q : KV} : q ∈ kvs l ↔ ∃ x ∈ l, q.1 = x.f0 ∧ q.2 ∈ x.f1 := by
  unfold kvs
  rw [List.mem_flatMap]
  constructor
  · rintro ⟨x, hx, h⟩
    obtain ⟨v, hv, rfl⟩ := List.mem_map.1 h
    exact ⟨x, hx, rfl, hv⟩
  · rintro ⟨x, hx, h1, h2⟩
    exact ⟨x, hx, List.mem_map.2 ⟨q.2, h2, by rw [← h1]⟩⟩
theorem Good.okq {l : List S67} (h : Good l) {q : KV} (hq : q ∈ kvs l) : okV q.2 := by
  obtain ⟨x, hx, _, h2⟩ := kvs_mem.1 hq
  exact h.ok x hx _ h2
theorem ofKV_inj {a b : KV} (ha : okV a.2) (hb : okV b.2) (h : (ofKV a).f0 = (ofKV b).f0) : a.1 = b.1 ∧ a.2.f0 = b.2.f0 :=
  pk_inj (by have := ha.1; omega) ha.2.1 (by have := hb.1; omega) hb.2.1 h
theorem Good.apart {l : List S67} (h : Good l) : (kvs l).Pairwise fun a b => (ofKV a).f0 ≠ (ofKV b).f0 := by
  unfold kvs
  rw [List.pairwise_flatMap]
  refine ⟨fun x hx => ?_, ?_⟩
  · rw [List.pairwise_map]
    refine List.Pairwise.imp_of_mem ?_ (h.falls x hx)
    intro a b ha hb hab e
    have := (ofKV_inj (a := (x.f0, a)) (b := (x.f0, b)) (h.ok x hx a ha) (h.ok x hx b hb) e).2
    simp only at this
    omega
  · refine List.Pairwise.imp_of_mem ?_ h.rises
    intro x y hx hy hxy a ha b hb e
    obtain ⟨v, hv, rfl⟩ := List.mem_map.1 ha
    obtain ⟨u, hu, rfl⟩ := List.mem_map.1 hb
    exact ltS_ne' hxy (ofKV_inj (a := (x.f0, v)) (b := (y.f0, u)) (h.ok x hx v hv) (h.ok y hy u hu) e).1
theorem filterMap_back {α β : Type} {f : β → Option α} {g : α → β} : ∀ {L : List α}, (∀ q ∈ L, f (g q) = some q) → (L.map g).filterMap f = L
  | [], _ => rfl
  | q :: L, h => by
    rw [List.map_cons, List.filterMap_cons, h q List.mem_cons_self]
    simp only
    rw [filterMap_back fun x hx => h x (List.mem_cons_of_mem _ hx)]
def sortedKV (l : List S67) : List KV := (sortP (rowsOf l)).filterMap versionP
theorem Good.sorted {l : List S67} (h : Good l) : (sortedKV l).Perm (kvs l) ∧ sortP (rowsOf l) = (sortedKV l).map ofKV ∧ (sortedKV l).Pairwise fun a b => ltS (ofKV a).f0 (ofKV b).f0 = true := by
  obtain ⟨hp, hs⟩ := sortP_spec (rowsOf l)
  have hdec : ∀ q ∈ kvs l, versionP (ofKV q) = some q := fun q hq => versionP_pair q.1 q.2 (h.okq hq)
  have e1 : (rowsOf l).filterMap versionP = kvs l := by
    rw [rowsOf_kvs]
    exact filterMap_back hdec
  have hperm : (sortedKV l).Perm (kvs l) := by
    unfold sortedKV
    rw [← e1]
    exact hp.filterMap _
  have hmem : ∀ p ∈ sortP (rowsOf l), ∃ q ∈ kvs l, p = ofKV q := by
    intro p hpm
    have := hp.mem_iff.1 hpm
    rw [rowsOf_kvs] at this
    obtain ⟨q, hq, rfl⟩ := List.mem_map.1 this
    exact ⟨q, hq, rfl⟩
  have hmap : sortP (rowsOf l) = (sortedKV l).map ofKV := by
    unfold sortedKV
    rw [List.map_filterMap]
    have : ∀ (L : List S69), (∀ p ∈ L, ∃ q ∈ kvs l, p = ofKV q) → L = L.filterMap fun p => (versionP p).map ofKV := by
      intro L hL
      induction L with
      | nil => rfl
      | cons p L ih =>
        obtain ⟨q, hq, rfl⟩ := hL p List.mem_cons_self
        rw [List.filterMap_cons, hdec q hq]
        simp only [Option.map_some]
        rw [← ih fun p hp => hL p (List.mem_cons_of_mem _ hp)]
    exact this _ hmem
  refine ⟨hperm, hmap, ?_⟩
  have hap : (sortedKV l).Pairwise fun a b => (ofKV a).f0 ≠ (ofKV b).f0 := (List.Perm.pairwise_iff (fun {a b} h => Ne.symm h) hperm).2 h.apart
  have hs2 : (sortedKV l).Pairwise fun a b => ltS (ofKV b).f0 (ofKV a).f0 = false := by
    rw [hmap, List.pairwise_map] at hs
    exact hs
  refine (hap.and hs2).imp ?_
  rintro a b ⟨h1, h2⟩
  rcases ltS_tri2 (ofKV a).f0 (ofKV b).f0 with h3 | h3 | h3
  · exact h3
  · exact absurd h3 h1
  · rw [h3] at h2; cases h2
def groupKV (Q : List KV) (A : List S67) : List S67 := Q.foldl (fun A q => addP A q.1 q.2) A
theorem gather_kv (Q : List KV) (hd : ∀ q ∈ Q, versionP (ofKV q) = some q) (hs : Q.Pairwise fun a b => ltS (ofKV a).f0 (ofKV b).f0 = true) : ∀ n i A, i + n = Q.length → gatherL (Q.map ofKV) n i A = some (groupKV (Q.drop i) A) := by
  intro n
  induction n with
  | zero => intro i A hi; rw [List.drop_of_length_le (by omega), gatherL]; rfl
  | succ n ih =>
    intro i A hi
    have hil : i < Q.length := by omega
    have hp : pairAt (Q.map ofKV) i = ofKV Q[i] := by simp [pairAt, List.getD_eq_getElem?_getD, hil]
    rw [gatherL, hp, hd _ (List.getElem_mem hil)]
    simp only
    rw [if_neg, ih (i + 1) _ (by omega), List.drop_eq_getElem_cons hil]
    · rfl
    · rintro ⟨h0, h1⟩
      have hq : pairAt (Q.map ofKV) (i - 1) = ofKV (Q[i - 1]'(by omega)) := by
        have : i - 1 < Q.length := by omega
        simp [pairAt, List.getD_eq_getElem?_getD, this]
      rw [hq, List.pairwise_iff_getElem.1 hs (i - 1) i (by omega) hil (by omega)] at h1
      cases h1
theorem rowP_add (A : List S67) (k key : ByteArray) (x : S80) : rowP (addP A k x) key = rowP A key ++ (if k.toList = key.toList then [x] else []) := by
  induction A with
  | nil =>
    show (if (k.toList == key.toList) = true then [x] else []) = [] ++ _
    by_cases c : k.toList = key.toList
    · rw [if_pos (beq_iff_eq.2 c), if_pos c]; rfl
    · rw [if_neg (by simpa using c), if_neg c]; rfl
  | cons g r ih =>
    rw [addP]
    by_cases c : (g.f0.toList == k.toList) = true
    · rw [if_pos c, rowP, rowP]
      by_cases d : k.toList = key.toList
      · rw [if_pos (beq_iff_eq.2 d), if_pos (by rw [eq_of_beq c]; exact beq_iff_eq.2 d), if_pos d]
      · rw [if_neg (by simpa using d), if_neg (by rw [eq_of_beq c]; simpa using d), if_neg d, List.append_nil]
    · rw [if_neg c, rowP, rowP]
      by_cases d : (g.f0.toList == key.toList) = true
      · rw [if_pos d, if_pos d, if_neg (fun e => c (by rw [e]; exact d)), List.append_nil]
      · rw [if_neg d, if_neg d, ih]
theorem rowP_group (key : ByteArray) : ∀ (Q : List KV) (A : List S67), rowP (groupKV Q A) key = rowP A key ++ (Q.filter fun q => q.1.toList == key.toList).map (·.2)
  | [], A => by simp [groupKV]
  | q :: Q, A => by
    show rowP (groupKV Q (addP A q.1 q.2)) key = _
    rw [rowP_group key Q, rowP_add, List.filter_cons]
    by_cases c : q.1.toList = key.toList
    · rw [if_pos c, if_pos (beq_iff_eq.2 c)]; simp
    · rw [if_neg c, if_neg (by simpa using c)]; simp
open Classical in
theorem keys_add (A : List S67) (k : ByteArray) (x : S80) : (addP A k x).map (·.f0) = if k ∈ A.map (·.f0) then A.map (·.f0) else A.map (·.f0) ++ [k] := by
  induction A with
  | nil => simp [addP]
  | cons g r ih =>
    rw [addP]
    by_cases c : (g.f0.toList == k.toList) = true
    · have e : g.f0 = k := ByteArray.ext (Array.toList_inj.1 (by rw [← Lib.toList_data, ← Lib.toList_data]; exact eq_of_beq c))
      rw [if_pos c, if_pos (by rw [List.map_cons, e]; exact List.mem_cons_self), List.map_cons, List.map_cons, e]
    · have hne : k ≠ g.f0 := fun e => c (by rw [e]; exact beq_self_eq_true _)
      rw [if_neg c, List.map_cons, ih, List.map_cons]
      by_cases d : k ∈ r.map (·.f0)
      · rw [if_pos d, if_pos (List.mem_cons_of_mem _ d)]
      · rw [if_neg d, if_neg (fun h => by rcases List.mem_cons.1 h with h | h; exact hne h; exact d h)]; rfl
open Classical in
theorem keys_group : ∀ (Q : List KV) (A : List S67), (A.map (·.f0)).Nodup → ((groupKV Q A).map (·.f0)).Nodup ∧ ∀ k, k ∈ (groupKV Q A).map (·.f0) ↔ k ∈ A.map (·.f0) ∨ k ∈ Q.map (·.1)
  | [], A, h => ⟨h, fun k => by simp [groupKV]⟩
  | q :: Q, A, h => by
    have h1 : ((addP A q.1 q.2).map (·.f0)).Nodup := by
      rw [keys_add]
      split
      · exact h
      · next hn => exact List.nodup_append.2 ⟨h, by simp, fun a ha b hb e => hn (by rw [← List.mem_singleton.1 hb, ← e]; exact ha)⟩
    obtain ⟨i1, i2⟩ := keys_group Q (addP A q.1 q.2) h1
    refine ⟨i1, fun k => ?_⟩
    show k ∈ (groupKV Q (addP A q.1 q.2)).map (·.f0) ↔ _
    rw [i2 k, keys_add, List.map_cons, List.mem_cons]
    split
    · next hm =>
      constructor
      · rintro (h | h)
        · exact Or.inl h
        · exact Or.inr (Or.inr h)
      · rintro (h | h | h)
        · exact Or.inl h
        · exact Or.inl (by rw [h]; exact hm)
        · exact Or.inr h
    · rw [List.mem_append, List.mem_singleton, or_assoc]
theorem sortS_perm (xs : List ByteArray) : (sortS xs).Perm xs := by
  unfold sortS sortB
  have h := (List.mergeSort_perm (xs.map fun x => x.data.toList) fun x y => decide (x ≤ y)).map (fun l => (⟨l.toArray⟩ : ByteArray))
  rw [List.map_map] at h
  have e : xs.map ((fun l => (⟨l.toArray⟩ : ByteArray)) ∘ fun x => x.data.toList) = xs := (List.map_congr_left fun x _ => rfl).trans (List.map_id _)
  rw [e] at h
  exact h
theorem sortS_sorted (xs : List ByteArray) : (sortS xs).Pairwise fun a b => ltS b a = false := by
  unfold sortS sortB
  rw [List.pairwise_map]
  have h := List.pairwise_mergeSort (le := fun x y : List UInt8 => decide (x ≤ y)) (fun a b c h1 h2 => by simp only [decide_eq_true_eq] at *; exact List.le_trans h1 h2) (fun a b => by simp only [Bool.or_eq_true, decide_eq_true_eq]; exact List.le_total a b) (xs.map fun x => x.data.toList)
  refine h.imp ?_
  intro a b hab
  rw [ltS_false]
  simpa using hab
theorem Good.keys {l : List S67} (h : Good l) : sortS ((groupKV (sortedKV l) []).map (·.f0)) = l.map (·.f0) := by
  obtain ⟨hperm, _, _⟩ := h.sorted
  obtain ⟨k1, k2⟩ := keys_group (sortedKV l) [] List.nodup_nil
  have hl : (l.map (·.f0)).Pairwise fun a b => ltS a b = true := by rw [List.pairwise_map]; exact h.rises
  have hln : (l.map (·.f0)).Nodup := hl.imp fun h => ltS_ne' h
  have hp : ((groupKV (sortedKV l) []).map (·.f0)).Perm (l.map (·.f0)) := by
    refine (List.perm_ext_iff_of_nodup k1 hln).2 fun k => ?_
    rw [k2 k]
    constructor
    · rintro (hk | hk)
      · cases hk
      · obtain ⟨q, hq, rfl⟩ := List.mem_map.1 hk
        obtain ⟨x, hx, e, _⟩ := kvs_mem.1 (hperm.mem_iff.1 hq)
        exact List.mem_map.2 ⟨x, hx, e.symm⟩
    · intro hk
      obtain ⟨x, hx, rfl⟩ := List.mem_map.1 hk
      obtain ⟨v, hv⟩ := List.exists_mem_of_length_pos (h.full x hx)
      exact Or.inr (List.mem_map.2 ⟨(x.f0, v), hperm.mem_iff.2 (kvs_mem.2 ⟨x, hx, rfl, hv⟩), rfl⟩)
  have hp2 := (sortS_perm ((groupKV (sortedKV l) []).map (·.f0))).trans hp
  have hs : (sortS ((groupKV (sortedKV l) []).map (·.f0))).Pairwise fun a b => ltS a b = true := by
    have hn : (sortS ((groupKV (sortedKV l) []).map (·.f0))).Nodup := hp2.nodup_iff.2 hln
    refine (List.Pairwise.and hn (sortS_sorted _)).imp ?_
    rintro a b ⟨h1, h2⟩
    rcases ltS_tri2 a b with h3 | h3 | h3
    · exact h3
    · exact absurd h3 h1
    · rw [h3] at h2; cases h2
  exact perm_sorted (fun a b h1 h2 => by rw [ltS_asymm h1] at h2; cases h2) hp2 hs hl
theorem filter_kvs {l : List S67} (h : l.Pairwise fun x y => ltS x.f0 y.f0 = true) {x : S67} (hx : x ∈ l) : (kvs l).filter (fun q => q.1.toList == x.f0.toList) = x.f1.map fun v => (x.f0, v) := by
  induction l with
  | nil => cases hx
  | cons y r ih =>
    obtain ⟨h1, h2⟩ := List.pairwise_cons.1 h
    have hself : ∀ (k : ByteArray) (vs : List S80), (vs.map fun v => (k, v)).filter (fun q : KV => q.1.toList == k.toList) = vs.map fun v => (k, v) := by
      intro k vs
      rw [List.filter_eq_self]
      intro q hq
      obtain ⟨v, _, rfl⟩ := List.mem_map.1 hq
      simp
    have hnone : ∀ (k k' : ByteArray) (vs : List S80), k ≠ k' → (vs.map fun v => (k, v)).filter (fun q : KV => q.1.toList == k'.toList) = [] := by
      intro k k' vs hne
      rw [List.filter_eq_nil_iff]
      intro q hq
      obtain ⟨v, _, rfl⟩ := List.mem_map.1 hq
      simp only [beq_iff_eq]
      intro e
      exact hne (ByteArray.ext (Array.toList_inj.1 (by rw [← Lib.toList_data, ← Lib.toList_data]; exact e)))
    unfold kvs
    rw [List.flatMap_cons, List.filter_append]
    rcases List.mem_cons.1 hx with rfl | hx
    · rw [hself]
      have : (kvs r).filter (fun q => q.1.toList == x.f0.toList) = [] := by
        rw [List.filter_eq_nil_iff]
        intro q hq
        obtain ⟨z, hz, e, _⟩ := kvs_mem.1 hq
        simp only [beq_iff_eq]
        intro e2
        refine ltS_ne' (h1 z hz) (ByteArray.ext (Array.toList_inj.1 ?_))
        rw [← Lib.toList_data, ← Lib.toList_data, ← e2, e]
      unfold kvs at this
      rw [this, List.append_nil]
    · rw [hnone _ _ _ (ltS_ne' (h1 x hx)), List.nil_append]
      exact ih h2 hx
theorem Good.row {l : List S67} (h : Good l) {x : S67} (hx : x ∈ l) : rowP (groupKV (sortedKV l) []) x.f0 = x.f1 := by
  obtain ⟨hperm, _, hs⟩ := h.sorted
  rw [rowP_group]
  have hp := hperm.filter (fun q => q.1.toList == x.f0.toList)
  rw [filter_kvs h.rises hx] at hp
  have e := perm_sorted (r := fun a b : KV => ltS (ofKV a).f0 (ofKV b).f0 = true) (fun a b h1 h2 => by rw [ltS_asymm h1] at h2; cases h2) hp (hs.filter _) (by
    rw [List.pairwise_map]
    refine List.Pairwise.imp_of_mem ?_ (h.falls x hx)
    intro a b ha hb hab
    exact pk_lt (by show 0 ≤ b.f0; have := (h.ok x hx b hb).1; omega) hab (h.ok x hx a ha).2.1)
  rw [e, List.map_map]
  show [] ++ _ = _
  rw [List.nil_append]
  exact (List.map_congr_left fun v _ => rfl).trans (List.map_id _)
end Go.Proofs.Ytehcmedeeaoebaa.PB
end
section
namespace Go.Proofs.Ytehcmedeeaoebaa.PB
open Go.RowKit Go.Proofs.YtehcmedeeaoebaaW.PrintWords Go.Proofs.YtehcmedeeaoebaaW.PrintLast Go.Proofs.YtehcmedeeaoebaaW.PrintMore
attribute [local go_sem] max2_int min2_int max_two min_two max_three min_three max_four min_four
set_option linter.unusedVariables false
set_option linter.unusedSimpArgs false
theorem eqA69 (d : Nat) (w : World) (x0 y0 : ByteArray) (x1 y1 : ByteArray) :
    (Op.equalIn (d + 2) 69 (.agg #[.string x0, .string x1]) (.agg #[.string y0, .string y1])).run Try.prog w = .ok (x0.toList == y0.toList && (x1.toList == y1.toList)) w := by
  refine eqA_of Try.underlying69 (by kernel_rfl) ?_
  refine eqf_cons (by rfl) (by go_simp; rfl) (by go_simp; rfl) (by go_simp) ?_
  exact eqf_last (by rfl) (by go_simp; rfl) (by go_simp; rfl) (by go_simp)
end Go.Proofs.Ytehcmedeeaoebaa.PB
end
section
namespace Go.Proofs.Ytehcmedeeaoebaa.PB
open Go.RowKit Go.Proofs.YtehcmedeeaoebaaW.PrintWords Go.Proofs.YtehcmedeeaoebaaW.PrintLast Go.Proofs.YtehcmedeeaoebaaW.PrintMore
attribute [local go_sem] max2_int min2_int max_two min_two max_three min_three max_four min_four
set_option linter.unusedVariables false
set_option linter.unusedSimpArgs false
attribute [local go_sem high] eqA69
def ambryref10_Same.l0 : Nat → List (S69) → List (S69) → Int → Option (Bool)
  | 0, _, _, _ => none
  | k + 1, x0, x1, x5 => if x5 < (x0.length : Int) then (if 0 ≤ x5 then (if x5 < (x1.length : Int) then (if (!((((rd_T69 x0 x5).f0).toList) == (((rd_T69 x1 x5).f0).toList)) || (!((((rd_T69 x0 x5).f1).toList) == (((rd_T69 x1 x5).f1).toList)))) = true then (some false) else (ambryref10_Same.l0 k x0 x1 (wrap64 (x5 + 1)))) else (none)) else (none)) else (some true)
def ambryref10_Same.f (k : Nat) (l0 : List (S69)) (l1 : List (S69)) : Option (Bool) := if (l0.length : Int) = (l1.length : Int) then (ambryref10_Same.l0 k l0 l1 0) else (some false)
theorem ambryref10_Same.mono_l : ∀ k, (∀ y0 y1 y2, LeO (ambryref10_Same.l0 k y0 y1 y2) (ambryref10_Same.l0 (k + 1) y0 y1 y2))
  | 0 => fun _ _ _ r h => by simp [ambryref10_Same.l0] at h
  | k + 1 => by
    have ih0 := ambryref10_Same.mono_l k
    · intro y0 y1 y2
      unfold ambryref10_Same.l0
      repeat' first
      | (with_reducible exact ih0 _ _ _)
      | (with_reducible exact LeO.refl _)
      | (with_reducible exact LeO.none _)
      | (with_reducible refine LeO.ite ?_ ?_)
      | (with_reducible refine LeO.bind ?_ (fun _ => ?_))
      | exact ih0 _ _ _
      | exact LeO.none _
      | refine LeO.ite ?_ ?_
      | refine LeO.bind ?_ (fun _ => ?_)
theorem ambryref10_Same.mono : ∀ a0 a1 k, LeO (ambryref10_Same.f k a0 a1) (ambryref10_Same.f (k + 1) a0 a1) := by
  intro a0 a1 k
  have ih0 := ambryref10_Same.mono_l k
  unfold ambryref10_Same.f
  repeat' first
      | (with_reducible exact ih0 _ _ _)
      | (with_reducible exact LeO.refl _)
      | (with_reducible exact LeO.none _)
      | (with_reducible refine LeO.ite ?_ ?_)
      | (with_reducible refine LeO.bind ?_ (fun _ => ?_))
      | exact ih0 _ _ _
      | exact LeO.none _
      | refine LeO.ite ?_ ?_
      | refine LeO.bind ?_ (fun _ => ?_)
set_option maxHeartbeats 8000000 in
set_option maxRecDepth 100000 in
theorem ambryref10_Same.calls (k : Nat) (A0 : Option Addr) (c0 : Nat) (l0 : List (S69)) (A1 : Option Addr) (c1 : Nat) (l1 : List (S69)) (r : Bool) (w : World) (hr0 : Kd.C k69 w A0 l0.length l0) (hc0 : l0.length ≤ c0) (hr1 : Kd.C k69 w A1 l1.length l1) (hc1 : l1.length ≤ c1) (h : ambryref10_Same.f k l0 l1 = some r) :
    Calls Try.prog 25 #[.slice A0 l0.length c0, .slice A1 l1.length c1] w fun e w' => e = .returned (.bool r) ∧ Drawn0 w w' := by
  have hu69 := Try.underlying69
  have HR0 := Aside0.mk hr0
  have HC0 := Aside0.mk hc0
  clear hr0 hc0
  have HR1 := Aside0.mk hr1
  have HC1 := Aside0.mk hc1
  clear hr1 hc1
  have H : (if (l0.length : Int) = (l1.length : Int) then (ambryref10_Same.l0 k l0 l1 0) else (some false)) = some r := h
  clear h
  by_cases c3 : (l0.length : Int) = (l1.length : Int)
  · rw [if_pos c3] at H
    have c3b0 : ((l0.length : Int) == (l1.length : Int)) = true := beq_iff_eq.mpr c3
    have c3b1 : ((l0.length : Int) != (l1.length : Int)) = false := bne_eq_false_iff_eq.mpr c3
    have c3b2 : (l0.length == l1.length) = true := by first | simpa using c3 | (simp at c3 ⊢; omega)
    clear c3
    have H' := Aside0.mk H
    clear H
    go_enter Try.func25, Try.ntmps25
    go_wp2
    repeat (go_quiet (fail); try go_wp2)
    go_loopg [5] k (fun kq v5 w' => ∃ (x5_1 : Int), v5 = .int .i64 x5_1 ∧ Aside0 (ambryref10_Same.l0 kq l0 l1 x5_1 = some r) ∧ Aside0 (kq ≤ k) ∧ Drawn0 w w')
    case atStart => exact ⟨(0), (by first | rfl | (simp; done) | (simp [*]; done)), H', ⟨Nat.le_refl _⟩, by repeat (first | exact Drawn0.refl _ | apply Drawn0.step)⟩
    case round =>
      clear H'
      try clear c1
      try clear c2
      try clear p2
      try clear c3
      try clear c3b0
      try clear c3b1
      try clear c3b2
      obtain ⟨x5_1, rfl, HA, HK1, ⟨m1, rfl⟩⟩ := hrel
      cases gk with
      | zero => exact absurd HA.out (by simp [ambryref10_Same.l0])
      | succ k1 =>
        have H := HA.out
        clear HA
        simp only [ambryref10_Same.l0] at H
        by_cases c4 : x5_1 < (l0.length : Int)
        · rw [if_pos c4] at H
          have c4b0 : decide (x5_1 < (l0.length : Int)) = true := decide_eq_true c4
          clear c4
          by_cases c5 : 0 ≤ x5_1
          · rw [if_pos c5] at H
            have c5b0 : decide (0 ≤ x5_1) = true := decide_eq_true c5
            clear c5
            by_cases c6 : x5_1 < (l1.length : Int)
            · rw [if_pos c6] at H
              have c6b0 : decide (x5_1 < (l1.length : Int)) = true := decide_eq_true c6
              clear c6
              by_cases c7 : (!((((rd_T69 l0 x5_1).f0).toList) == (((rd_T69 l1 x5_1).f0).toList)) || (!((((rd_T69 l0 x5_1).f1).toList) == (((rd_T69 l1 x5_1).f1).toList)))) = true
              · rw [if_pos c7] at H
                have c7b0 : (!((((rd_T69 l0 x5_1).f0).toList) == (((rd_T69 l1 x5_1).f0).toList)) || (!((((rd_T69 l0 x5_1).f1).toList) == (((rd_T69 l1 x5_1).f1).toList)))) = true := c7
                clear c7
                obtain rfl := Option.some.inj H
                have p165 : 0 ≤ (x5_1 : Int) := of_decide_eq_true (by first | (with_reducible assumption) | assumption)
                have q165 : x5_1 < (l0.length : Int) := of_decide_eq_true (by first | (with_reducible assumption) | assumption)
                obtain ⟨ad165, e165, hx165_0, hx165_1⟩ := at_T69 HR0.out x5_1 p165 q165
                cases e165
                replace p165 := eq_true p165
                replace q165 := eq_true q165
                have p166 : 0 ≤ (x5_1 : Int) := of_decide_eq_true (by first | (with_reducible assumption) | assumption)
                have q166 : x5_1 < (l1.length : Int) := of_decide_eq_true (by first | (with_reducible assumption) | assumption)
                obtain ⟨ad166, e166, hx166_0, hx166_1⟩ := at_T69 HR1.out x5_1 p166 q166
                cases e166
                replace p166 := eq_true p166
                replace q166 := eq_true q166
                go_wp2
                repeat (go_quiet (fail); try go_wp2)
                go_ret
                exact ⟨by first | rfl | (simp; done) | (simp [*]; done), by repeat (first | exact Drawn0.refl _ | apply Drawn0.step)⟩
              · rw [if_neg c7] at H
                have c7b0 : (!((((rd_T69 l0 x5_1).f0).toList) == (((rd_T69 l1 x5_1).f0).toList)) || (!((((rd_T69 l0 x5_1).f1).toList) == (((rd_T69 l1 x5_1).f1).toList)))) = false := by simpa using c7
                clear c7
                have H' := Aside0.mk H
                clear H
                have p165 : 0 ≤ (x5_1 : Int) := of_decide_eq_true (by first | (with_reducible assumption) | assumption)
                have q165 : x5_1 < (l0.length : Int) := of_decide_eq_true (by first | (with_reducible assumption) | assumption)
                obtain ⟨ad165, e165, hx165_0, hx165_1⟩ := at_T69 HR0.out x5_1 p165 q165
                cases e165
                replace p165 := eq_true p165
                replace q165 := eq_true q165
                have p166 : 0 ≤ (x5_1 : Int) := of_decide_eq_true (by first | (with_reducible assumption) | assumption)
                have q166 : x5_1 < (l1.length : Int) := of_decide_eq_true (by first | (with_reducible assumption) | assumption)
                obtain ⟨ad166, e166, hx166_0, hx166_1⟩ := at_T69 HR1.out x5_1 p166 q166
                cases e166
                replace p166 := eq_true p166
                replace q166 := eq_true q166
                go_wp2
                repeat (go_quiet (fail); try go_wp2)
                go_roundg k1
                case measure => have := HK1.out; omega
                case rel => exact ⟨(wrap64 (x5_1 + 1)), (by first | rfl | (simp; done) | (simp [*]; done)), H', ⟨by have := HK1.out; omega⟩, by repeat (first | exact Drawn0.refl _ | apply Drawn0.step)⟩
            · rw [if_neg c6] at H
              exact absurd H (by simp)
          · rw [if_neg c5] at H
            exact absurd H (by simp)
        · rw [if_neg c4] at H
          have c4b0 : decide (x5_1 < (l0.length : Int)) = false := decide_eq_false c4
          clear c4
          obtain rfl := Option.some.inj H
          go_wp2
          repeat (go_quiet (fail); try go_wp2)
          go_ret
          exact ⟨by first | rfl | (simp; done) | (simp [*]; done), by repeat (first | exact Drawn0.refl _ | apply Drawn0.step)⟩
  · rw [if_neg c3] at H
    have c3b0 : ((l0.length : Int) == (l1.length : Int)) = false := beq_eq_false_iff_ne.mpr c3
    have c3b1 : ((l0.length : Int) != (l1.length : Int)) = true := bne_iff_ne.mpr c3
    have c3b2 : (l0.length == l1.length) = false := by first | simpa using c3 | (simp at c3 ⊢; omega)
    obtain rfl := Option.some.inj H
    go_enter Try.func25, Try.ntmps25
    go_wp2
    repeat (go_quiet (fail); try go_wp2)
    go_ret
    exact ⟨by first | rfl | (simp; done) | (simp [*]; done), by repeat (first | exact Drawn0.refl _ | apply Drawn0.step)⟩
end Go.Proofs.Ytehcmedeeaoebaa.PB
end
