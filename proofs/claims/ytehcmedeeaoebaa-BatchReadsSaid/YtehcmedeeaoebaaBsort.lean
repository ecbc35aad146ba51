import Derived.Test.YtehcmedeeaoebaaBrises
import Derived.Test.YtehcmedeeaoebaaBshelf
import Derived.Test.YtehcmedeeaoebaaPBcmpisNaNstring
import Derived.Shelf.SlSortCmp.NoneTotal
namespace Go.Proofs.Ytehcmedeeaoebaa.PB
open Go.RowKit Go.Proofs.YtehcmedeeaoebaaW.PrintWords Go.Proofs.YtehcmedeeaoebaaW.PrintLast Go.Proofs.YtehcmedeeaoebaaW.PrintMore
set_option linter.unusedVariables false
set_option linter.unusedSimpArgs false
instance : Inhabited S69 := ⟨⟨⟨#[]⟩, ⟨#[]⟩⟩⟩
def cmpS (a b : ByteArray) : Int := if ltS a b then -1 else if ltS b a then 1 else 0
theorem ltS_iff (a b : ByteArray) : ltS a b = true ↔ a.data.toList < b.data.toList := by
  unfold ltS; rw [bytesLess_eq, Lib.toList_data, Lib.toList_data]; simp
theorem ltS_false (a b : ByteArray) : ltS a b = false ↔ b.data.toList ≤ a.data.toList := by
  rw [← Bool.not_eq_true, ltS_iff, List.not_lt]
theorem ltS_trans {a b c : ByteArray} (h1 : ltS a b = true) (h2 : ltS b c = true) : ltS a c = true := by
  rw [ltS_iff] at *; exact List.lt_trans h1 h2
theorem ltS_irrefl (a : ByteArray) : ltS a a = false := by rw [ltS_false]; exact List.le_refl _
theorem ltS_asymm {a b : ByteArray} (h : ltS a b = true) : ltS b a = false := by
  rw [ltS_false]; rw [ltS_iff] at h; exact List.le_of_lt h
theorem ltS_ntrans {a b c : ByteArray} (h1 : ltS a b = false) (h2 : ltS b c = false) : ltS a c = false := by
  rw [ltS_false] at *; exact List.le_trans h2 h1
theorem ltS_eq {a b : ByteArray} (h1 : ltS a b = false) (h2 : ltS b a = false) : a = b := by
  rw [ltS_false] at *; exact ByteArray.ext (Array.toList_inj.1 (List.le_antisymm h2 h1))
def cmpP (x y : S69) : Int := cmpS x.f0 y.f0
theorem cmpP_lt (x y : S69) : Go.Proofs.ltOf cmpP x y = ltS x.f0 y.f0 := by
  unfold Go.Proofs.ltOf cmpP cmpS
  cases h1 : ltS x.f0 y.f0
  · cases h2 : ltS y.f0 x.f0 <;> simp
  · simp
theorem swoP : Go.Sort.SWO (Go.Proofs.ltOf cmpP) where
  irrefl x := by rw [cmpP_lt]; exact ltS_irrefl _
  trans x y z h1 h2 := by rw [cmpP_lt] at *; exact ltS_trans h1 h2
  ntrans x y z h1 h2 := by rw [cmpP_lt] at *; exact ltS_ntrans h1 h2
theorem isNaNS.calls (a : ByteArray) (W : World) : Calls Try.prog 75 #[.string a] W fun e w' => e = .returned (.bool false) ∧ w' = W := by
  go_enter Try.func75, Try.ntmps75
  go_wp2
  go_ret
  exact ⟨by simp, rfl⟩
theorem compareS.calls (x y : ByteArray) (W : World) : Calls Try.prog 57 #[.string x, .string y] W fun e w' => e = .returned (.int .i64 (cmpS x y)) ∧ w' = W := by
  have hn := isNaNS.calls
  by_cases h1 : ltS x y = true
  · have e1 : Op.bytesLess x.toList y.toList = true := h1
    go_enter Try.func57, Try.ntmps57
    go_wp2_with (go_at_call 75; refine (hn _ _).mono ?_; rintro e w' ⟨rfl, rfl⟩)
    go_ret
    exact ⟨by simp [cmpS, h1], rfl⟩
  · have h1' : ltS x y = false := by simpa using h1
    have e1 : Op.bytesLess x.toList y.toList = false := h1'
    by_cases h2 : ltS y x = true
    · have hne : (x.toList == y.toList) = false := by
        rw [beq_eq_false_iff_ne]; intro h
        have : Op.bytesLess y.toList x.toList = true := h2
        rw [h] at this e1; rw [this] at e1; cases e1
      go_enter Try.func57, Try.ntmps57
      go_wp2_with (go_at_call 75; refine (hn _ _).mono ?_; rintro e w' ⟨rfl, rfl⟩)
      go_ret
      exact ⟨by simp [cmpS, h1', h2], rfl⟩
    · have h2' : ltS y x = false := by simpa using h2
      have hxy := ltS_eq h1' h2'
      subst hxy
      clear h1 h1' h2 h2'
      go_enter Try.func57, Try.ntmps57
      go_wp2_with (go_at_call 75; refine (hn _ _).mono ?_; rintro e w' ⟨rfl, rfl⟩)
      go_ret
      exact ⟨by simp [cmpS, ltS_irrefl], rfl⟩
def encP (x : S69) : List Value := [.string x.f0, .string x.f1]
set_option maxHeartbeats 1000000 in
theorem pairs1.calls (x y : S69) (W : World) : Calls Try.prog 56 #[.agg #[.string x.f0, .string x.f1], .agg #[.string y.f0, .string y.f1]] W fun e w' => e = .returned (.int .i64 (cmpP x y)) ∧ ∃ q os', w' = Go.Sort.grow (W.drewN q) os' := by
  have hcon := fun W' => compareS.calls x.f0 y.f0 W'
  unfold cmpP
  generalize cmpS x.f0 y.f0 = r at hcon ⊢
  go_enter Try.func56, Try.ntmps56
  go_wp2_with (go_at_call 57; refine (hcon _).mono ?_; rintro e w' ⟨rfl, rfl⟩)
  go_ret
  exact ⟨rfl, 0, _, by rw [Go.Sort.alloc_eq_grow, Go.Sort.alloc_eq_grow, Go.Sort.grow_grow]; rfl⟩
theorem cmpLaysP (blk off size : Nat) (w : World) : Go.Proofs.CmpLays Try.prog 56 #[] encP 2 cmpP blk off size w :=
  fun _ _ _ _ x y => pairs1.calls x y _
def sortP (xs : List S69) : List S69 := if xs = [] then [] else (Go.Sort.pdq (Go.Proofs.ltOf cmpP) xs.toArray 0 xs.toArray.size (Go.Lib.bitLen xs.toArray.size) true true).toList
theorem sortP_spec (xs : List S69) : (sortP xs).Perm xs ∧ (sortP xs).Pairwise fun a b => ltS b.f0 a.f0 = false := by
  unfold sortP
  split
  · next h => subst h; simp
  next hne =>
  have h := Go.Sort.pdq_sorts (Go.Proofs.ltOf cmpP) swoP xs.toArray 0 xs.toArray.size (Go.Lib.bitLen xs.toArray.size) true true (Nat.zero_le _) (Nat.le_refl _) (Or.inl rfl)
  generalize Go.Sort.pdq (Go.Proofs.ltOf cmpP) xs.toArray 0 xs.toArray.size (Go.Lib.bitLen xs.toArray.size) true true = d at h ⊢
  obtain ⟨⟨hs, -, hp⟩, ho⟩ := h
  refine ⟨?_, ?_⟩
  · have : d.extract 0 xs.toArray.size = d := by rw [← hs]; simp
    rw [this] at hp
    simpa using hp
  · rw [List.pairwise_iff_getElem]
    intro i j hi hj hij
    have := ho i j (Nat.zero_le _) hij (by rw [← hs]; simpa using hj)
    rw [cmpP_lt] at this
    rw [getElem!_pos d j (by simpa using hj), getElem!_pos d i (by simpa using hi)] at this
    simpa using this
open Go.Sort in
theorem flat_at (d : Array S69) (t : Nat) (h : t < d.size * 2) : (flatK encP 2 d)[t]! = (encP d[t / 2]!)[t % 2]! := get_flatK encP 2 d t h
open Go.Sort in
theorem R_cells {w : World} {base : Nat} {ok : Nat → Prop} {v : Value} {xs : List S69} (h : Kd.R k69 69 w base ok v xs) (hne : xs ≠ []) :
    ∃ g cap cur, v = .slice (some ⟨g, 0, none⟩) xs.length cap ∧ base ≤ g ∧ w.heap[g]? = some (.cells cur 69 (0, 0)) ∧ xs.length ≤ cap ∧ cap ≤ maxLen ∧ cur.size = cap * 2 ∧ cur.toList.take (xs.length * 2) = (flatK encP 2 xs.toArray).toList ∧ ok g := by
  obtain ⟨hok, inner, ⟨hl, hor⟩, hr⟩ := h
  rcases hor with ⟨_, h0⟩ | ⟨g, cap, cur, rfl, hb, hg, h1, h2, h3, h4⟩
  · exact absurd (List.eq_nil_of_length_eq_zero h0) hne
  refine ⟨g, cap, cur, rfl, hb, hg, h1, h2, h3, ?_, hok g rfl⟩
  rw [show Kd.sz k69 = 2 from rfl] at *
  rw [h4]
  refine List.ext_getElem (by simp [hl]) fun t ht1 ht2 => ?_
  have ht : t < xs.length * 2 := by rw [← hl]; exact ht1
  have hj : t / 2 < xs.length := by omega
  have hp := k69_openM (hr.2 (t / 2) _ (List.getElem?_eq_getElem hj))
  have e1 : inner[t]? = (((inner.drop (t / 2 * 2)).take 2))[t % 2]? := by
    rw [List.getElem?_take, if_pos (by omega), List.getElem?_drop]; congr 1; omega
  have hf := flat_at xs.toArray t (by simpa using ht)
  rw [getElem!_pos (flatK encP 2 xs.toArray) t (by simpa using ht)] at hf
  refine Eq.trans ?_ (show _ = (flatK encP 2 xs.toArray).toList[t] from hf.symm)
  apply Option.some.inj
  rw [← List.getElem?_eq_getElem ht1, e1]
  replace hp : List.take 2 (List.drop (t / 2 * 2) inner) = [.string xs[t / 2].f0, .string xs[t / 2].f1] := hp
  rw [hp]
  rw [getElem!_pos xs.toArray (t / 2) (by simpa using hj)]
  rcases (show t % 2 = 0 ∨ t % 2 = 1 by omega) with e | e <;> rw [e] <;> simp [encP]
open Go.Sort in
theorem R_sorted {w : World} {base : Nat} {ok : Nat → Prop} {xs ys : List S69} {g cap : Nat} (h : Kd.R k69 69 w base ok (.slice (some ⟨g, 0, none⟩) xs.length cap) xs) (hne : xs ≠ []) (hy : ys.length = xs.length) (m : Nat) (os : Array Obj) :
    Kd.R k69 69 (sortWorldK encP 2 w g 0 m ys.toArray os) base ok (.slice (some ⟨g, 0, none⟩) xs.length cap) ys ∧ Below base w (sortWorldK encP 2 w g 0 m ys.toArray os) := by
  obtain ⟨g', cap', cur, hv, hb, hg, h1, h2, h3, h4, h5⟩ := R_cells h hne
  injection hv with ha _ hc
  injection ha with ha; injection ha with ha
  subst ha hc
  have hgl := blk_lt hg
  have hblk : (sortWorldK encP 2 w g 0 m ys.toArray os).heap[g]? = some (.cells (putCells id 0 (flatK encP 2 ys.toArray) cur) 69 (0, 0)) := by
    unfold sortWorldK grow putRowK putRow mapBlock Go.Sort.ahead
    simp only
    rw [Array.getElem?_append_left (by simpa using hgl), Array.getElem?_modify, if_pos rfl, hg]
    rfl
  refine ⟨⟨fun k hk => by simp only [Value.ownBlock, Option.some.injEq] at hk; subst hk; exact h5, (flatK encP 2 ys.toArray).toList, ⟨by simp [hy]; rfl, Or.inr ⟨g, cap, _, by rw [hy], hb, hblk, by omega, h2, by simp [putCells, h3]; rfl, ?_⟩⟩, ⟨by simp; rfl, ?_⟩⟩, ⟨rfl, rfl, rfl, by unfold sortWorldK grow putRowK putRow mapBlock Go.Sort.ahead; simp, fun k hk => ?_⟩⟩
  · rw [hy, show Kd.sz k69 = 2 from rfl]
    refine List.ext_getElem (by simp [putCells, h3, hy]; omega) fun t ht1 ht2 => ?_
    have ht : t < ys.length * 2 := by simpa using ht2
    rw [List.getElem_take, Array.getElem_toList, Array.getElem_toList]
    simp only [putCells, Array.getElem_mapIdx, size_flatK, Nat.zero_le, true_and, Nat.zero_add, Nat.sub_zero, id]
    rw [if_pos (by simpa using ht), getElem!_pos (flatK encP 2 ys.toArray) t (by simpa using ht)]
  · intro j p hj
    have hjl : j < ys.length := (List.getElem?_eq_some_iff.1 hj).1
    have e : ((flatK encP 2 ys.toArray).toList.drop (j * 2)).take 2 = [.string p.f0, .string p.f1] := by
      have hp : ys.toArray[j]! = p := by rw [getElem!_pos ys.toArray j (by simpa using hjl)]; simpa using (List.getElem?_eq_some_iff.1 hj).2
      refine List.ext_getElem (by simp; omega) fun t ht1 ht2 => ?_
      have ht : t < 2 := by simpa using ht2
      rw [List.getElem_take, List.getElem_drop, Array.getElem_toList]
      have hf := flat_at ys.toArray (j * 2 + t) (by simp; omega)
      rw [getElem!_pos (flatK encP 2 ys.toArray) (j * 2 + t) (by simp; omega), show (j * 2 + t) / 2 = j by omega, show (j * 2 + t) % 2 = t by omega, hp] at hf
      rw [hf]
      rcases (show t = 0 ∨ t = 1 by omega) with e | e <;> subst e <;> simp [encP]
    rw [show Kd.sz k69 = 2 from rfl, e]
    exact k69_mkM _ _ _ _
  · unfold sortWorldK grow putRowK putRow mapBlock Go.Sort.ahead
    simp only
    have : k < w.heap.size := by omega
    rw [Array.getElem?_append_left (by simpa using this), Array.getElem?_modify, if_neg (by omega)]
set_option maxHeartbeats 2000000 in
theorem SortFunc69.calls (base : Nat) (ok : Nat → Prop) (v : Value) (xs : List S69) (w : World) (hR : Kd.R k69 69 w base ok v xs) (hn : xs.length < 4611686018427387904) :
    Calls Try.prog 55 #[v, .func (.func 56) #[] #[]] w fun e w' => e = .returned (.tuple #[]) ∧ Kd.R k69 69 w' base ok v (sortP xs) ∧ Below base w w' := by
  by_cases hne : xs = []
  · subst hne
    obtain ⟨A, c, rfl⟩ := Kd.R_slice hR
    refine (Go.Proofs.AnyF.slices_SortFunc_none Try.sortPair A c _ w).mono ?_
    rintro e w' ⟨rfl, rfl⟩
    exact ⟨rfl, by unfold sortP; rw [if_pos rfl]; exact hR, Below.refl _ _⟩
  obtain ⟨g, cap, cur, rfl, hb, hg, h1, h2, h3, h4, h5⟩ := R_cells hR hne
  have hH : Go.Sort.HoldsK encP 2 w g 0 xs.toArray := by
    intro j hj
    have hj' : j < xs.length * 2 := by simpa using hj
    refine ⟨?_, blk_frozen hg _⟩
    rw [Nat.zero_add, blk_cell hg]
    have e : cur[j]? = (cur.toList.take (xs.length * 2))[j]? := by rw [List.getElem?_take, if_pos hj']; simp
    rw [e, h4, Array.getElem?_toList, Array.getElem?_eq_getElem (by simpa using hj), getElem!_pos _ j (by simpa using hj)]; rfl
  have eg : ∀ args w, (callFunc 56 args).run Try.prog w = .ok (.enter 56 args) w := enters_of Try.func56 (by kernel_rfl) rfl
  have hcon := Go.Proofs.AnyQ.slices_SortFunc_eq Try.sortPair 2 Try.isAgg69 Try.sizeOf69 encP (fun _ => rfl) (fun x v hv => by simp [encP] at hv; rcases hv with rfl | rfl <;> rfl) cmpP swoP 56 #[] g 0 cap xs.toArray w eg (cmpLaysP _ _ _ _) hH (blk_lt hg) (by simpa using hn)
  refine Calls.mono (show Calls Try.prog 55 _ _ _ from hcon) ?_
  rintro e w' ⟨rfl, n, os, rfl⟩
  have hy : (sortP xs).length = xs.length := (sortP_spec xs).1.length_eq
  have := R_sorted hR hne hy n os
  have e : (sortP xs).toArray = Go.Sort.pdq (Go.Proofs.ltOf cmpP) xs.toArray 0 xs.toArray.size (Go.Lib.bitLen xs.toArray.size) true true := by unfold sortP; rw [if_neg hne]
  rw [e] at this
  exact ⟨rfl, this⟩
end Go.Proofs.Ytehcmedeeaoebaa.PB
