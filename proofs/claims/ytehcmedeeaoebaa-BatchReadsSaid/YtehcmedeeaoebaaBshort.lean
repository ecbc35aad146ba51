import Derived.Test.YtehcmedeeaoebaaPBfieldPut8
import Derived.WalkSpells
namespace Go.Proofs.Ytehcmedeeaoebaa.PB
open Go.RowKit Go.Proofs.YtehcmedeeaoebaaW.PrintWords Go.Proofs.YtehcmedeeaoebaaW.PrintLast Go.Proofs.YtehcmedeeaoebaaW.PrintMore
set_option linter.unusedVariables false
set_option linter.unusedSimpArgs false
section
variable {P : Program} {ops : Array Oper} {rest : List Oper} {o : Oper} {a : Act} {Q : Exit → Act → World → Prop}
theorem append_str_at {w0 W : World} (base : Nat) (hgd : o.guard = none) (s x : Operand) (t u e : TypeId)
    (ho : o.op = .call { callee := .builtin .append, args := #[s, x], argTypes := #[t, u] })
    (ht : P.underlying t = some (.slice e)) (hu : P.underlying u = some .string) (hinfo : (P.info? e).map (fun i => (i.zero, i.size, i.bytes)) = some (some (.int .u8 0), 1, 1))
    (v : Value) (xs : List Int) (y : ByteArray) (hs : a.eval s = v) (hx : a.eval x = .string y) (hpos : 0 < xs.length)
    (HO : W.ownsRow base e 1 v xs.length (nums .u8 xs)) (HB : Below base w0 W) (hbase : base ≤ W.heap.size) (hl : xs.length + y.size ≤ 140737488355328)
    (h : ∀ v1 w1, w1.ownsRow base e 1 v1 (xs ++ bytesOf y).length (nums .u8 (xs ++ bytesOf y)) → Below base w0 w1 → W.grownBy w1 v.ownBlock → (v1.ownBlock = v.ownBlock ∨ v1.ownBlock = some W.heap.size) → wpList P ops Q rest (a.put o.dst v1) w1) :
    wpList P ops Q (o :: rest) a W := by
  obtain ⟨i0, hi, hzz⟩ := Option.map_eq_some_iff.1 hinfo
  simp only [Prod.mk.injEq] at hzz
  obtain ⟨hz0, hz1, hz2⟩ := hzz
  obtain ⟨v1, w1, hrun, hown, hg, _⟩ := Lib.run_append_own_string (P := P) W base t u o.type e i0 ht hu hi hz0 hz1 hz2 v xs.length (nums .u8 xs) HO y (by simp only [maxLen]; omega) hl hbase
  have hat : v1.ownBlock = v.ownBlock ∨ v1.ownBlock = some W.heap.size := by
    rcases HO.2 with ⟨_, h0⟩ | ⟨g, cap, cur, rfl, hbg, hh, hn, hm, hcs, htk⟩
    · omega
    · by_cases hr : xs.length + y.size ≤ cap
      · have h2 := Lib.run_append_room_string (P := P) W t u o.type e i0 ht hu hi hz1 g xs.length cap cur hh y hr (by omega)
        rw [h2] at hrun
        injection hrun with e1 _
        left
        rw [← e1]; rfl
      · have hcells : ∀ j q, (nums .u8 xs)[j]? = some q → W.cell? ((⟨g, 0, none⟩ : Addr).add j) = some q := fun j q hq => HO.cells (g := g) rfl j q hq
        have h2 := Lib.run_append_grow_string (P := P) W t u o.type e i0 _ ht hu hi hz0 ⟨g, 0, none⟩ xs.length cap (nums .u8 xs) (by rw [hz1]; simp [nums]) hcells y (by omega) (by omega)
          (by rw [hz2]; exact growslice_fits (by omega) (by omega))
        rw [h2] at hrun
        injection hrun with e1 _
        right
        rw [← e1]; rfl
  refine wpList_plain hgd fun K hK => ?_
  unfold Oper.wp execOp
  simp only [ho, resolve, invoke, builtin, Sem.run_bind, Sem.run_pure, Result.andThen_ok, List.map_toArray, List.map_cons, List.map_nil, hs, hx, hrun]
  have hl2 : (xs ++ bytesOf y).length = xs.length + y.size := by rw [List.length_append, bytesOf_length]
  have hc : nums .u8 (xs ++ bytesOf y) = nums .u8 xs ++ Lib.strCells y := by
    rw [nums_append]
    congr 1
    simp [nums, bytesOf, Lib.strCells]
  exact hK _ _ (h v1 w1 (by rw [hl2, hc]; exact hown) (HB.grown hg hbase (own_base HO)) hg hat)
end
theorem Put8_pos {k : Nat} {l : List Int} {n : Int} {r : List Int} (h : field_Put8.f k l n = some r) : 0 < r.length := by
  unfold field_Put8.f at h
  obtain ⟨t, ht, h⟩ := Option.bind_eq_some_iff.1 h
  obtain rfl := Option.some.inj h
  unfold field_put_uint8.f at ht
  have e0 : wrap64 (1 - 1) = 0 := by unfold wrap64; omega
  have e1 : wrap64 (0 - 1) = -1 := by unfold wrap64; omega
  have e2 : wrap64 (8 * 0) = 0 := by unfold wrap64; omega
  rw [e0] at ht
  match k, ht with
  | 0, ht => simp [field_put_uint8.l0] at ht
  | 1, ht => simp [field_put_uint8.l0, e1, e2] at ht
  | k + 2, ht =>
    simp only [field_put_uint8.l0] at ht
    rw [if_pos (by decide), e2, if_pos (by decide)] at ht
    by_cases c : l.length < 140737488355328
    · rw [if_pos c, e1, if_neg (by decide)] at ht
      have := Option.some.inj ht
      rw [← this]; simp
    · rw [if_neg c] at ht; cases ht
def batch_short.f (k : Nat) (l0 : List Int) (a1 : ByteArray) : Option (List Int) := (field_Put8.f k l0 (a1.size : Int)).bind fun t159 => (if t159.length + a1.size < 140737488355328 then (some (t159 ++ bytesOf a1)) else (none))
theorem batch_short.mono : ∀ a0 a1 k, LeO (batch_short.f k a0 a1) (batch_short.f (k + 1) a0 a1) := by
  intro a0 a1 k
  unfold batch_short.f
  repeat' first
      | (with_reducible exact field_Put8.mono _ _ _)
      | (with_reducible exact LeO.refl _)
      | (with_reducible exact LeO.none _)
      | (with_reducible refine LeO.ite ?_ ?_)
      | (with_reducible refine LeO.bind ?_ (fun _ => ?_))
      | exact field_Put8.mono _ _ _
      | exact LeO.none _
      | refine LeO.ite ?_ ?_
      | refine LeO.bind ?_ (fun _ => ?_)
set_option maxHeartbeats 2000000 in
set_option maxRecDepth 100000 in
theorem batch_short.calls (k : Nat) (P0_ : Nat → Prop) (u9000_ : Value) (l0 : List Int) (a1 : ByteArray) (r : List Int) (w0 w : World) (hB : Below w0.heap.size w0 w) (ho0 : Kd.R (Kd.int .u8) 5 w w0.heap.size P0_ u9000_ l0) (h : batch_short.f k l0 a1 = some r) :
    Calls Try.prog 41 #[u9000_, .string a1] w fun e w' => ∃ v0_ : Value, e = .returned (v0_) ∧ Kd.R (Kd.int .u8) 5 w' w0.heap.size (fun k_ => (P0_ k_ ∨ w.heap.size ≤ k_)) v0_ r ∧ Below w0.heap.size w0 w' ∧ Kept w w' (fun k_ => P0_ k_) := by
  unfold batch_short.f at h
  obtain ⟨t, ht, h⟩ := Option.bind_eq_some_iff.1 h
  have hpos := Put8_pos ht
  by_cases c : ¬ (t.length + a1.size < 140737488355328)
  · rw [if_neg c] at h; cases h
  replace c := Decidable.not_not.1 c
  rw [if_pos c] at h
  obtain rfl := Option.some.inj h
  have HC := Aside0.mk (field_Put8.calls k P0_ u9000_ l0 (a1.size : Int) t w0 w hB ho0 ht)
  have HPOS := Aside0.mk hpos
  have HL := Aside0.mk c
  have HWB := Aside0.mk hB.size
  clear h ho0 hB ht hpos c
  go_enter Try.func41, Try.ntmps41
  go_wp2_with (first | (go_at_call 39; go_must (refine HC.out.mono ?_); rintro e w6 ⟨v8, rfl, ho, hb, hkp⟩; have HO := Aside0.mk ho; have HB := Aside0.mk hb; have HK := Aside0.mk hkp; clear ho hb hkp) | ((with_reducible refine gate_builtin (b := .append) (xs := #[.tmp 8, .tmp 9]) rfl ?_); at_builtin; go_must (refine append_str_at (w0 := w0) w0.heap.size rfl (.tmp 8) (.tmp 9) 72 9 5 rfl Try.underlying72 Try.underlying9 info5 v8 t a1 rfl rfl HPOS.out (Kd.own_of_R HO.out) HB.out HB.out.size (Nat.le_of_lt HL.out) ?_); intro v10 w7 ho hb hg hat; have HO2 := Aside0.mk ho; have HB2 := Aside0.mk hb; have HG := Aside0.mk hg; have HAT := Aside0.mk hat; clear ho hb hg hat))
  go_ret
  refine ⟨_, rfl, Kd.R_of_own (h1 := fun _ => rfl) HO2.out (fun k_ hk_ => ?_), HB2.out, Kept.of_grown HG.out HK.out (fun k_ e_ => ?_)⟩
  · rcases HAT.out with e_ | e_
    · exact HO.out.1 k_ (e_.symm.trans hk_)
    · have hk2 := e_.symm.trans hk_
      injection hk2 with hk_
      exact .inr (by rw [← hk_]; exact HK.out.1)
  · have := HO.out.1 k_ e_
    exact this
end Go.Proofs.Ytehcmedeeaoebaa.PB
