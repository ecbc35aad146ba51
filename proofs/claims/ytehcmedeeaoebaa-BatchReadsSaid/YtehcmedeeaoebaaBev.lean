import Derived.Test.YtehcmedeeaoebaaPB0
namespace Go.Proofs.Ytehcmedeeaoebaa.PB
open Go.RowKit Go.Proofs.YtehcmedeeaoebaaW.PrintWords Go.Proofs.YtehcmedeeaoebaaW.PrintLast Go.Proofs.YtehcmedeeaoebaaW.PrintMore
set_option linter.unusedVariables false
set_option linter.unusedSimpArgs false
structure Upd (g : Nat) (w w' : World) : Prop where
  os : w'.os = w.os
  tape : w'.tape = w.tape
  output : w'.output = w.output
  size : w'.heap.size = w.heap.size
  block : ∀ k, k ≠ g → w'.heap[k]? = w.heap[k]?
theorem Upd.below {g B : Nat} {w0 w w' : World} (h : Upd g w w') (hb : Below B w0 w) (hg : B ≤ g) : Below B w0 w' :=
  hb.trans ⟨h.os, h.tape, h.output, by rw [h.size]; exact Nat.le_refl _, fun k hk => h.block k (by omega)⟩
theorem Upd.blk {g k : Nat} {w w' : World} {o : Obj} (h : Upd g w w') (hb : w.heap[k]? = some o) (hk : k ≠ g) : w'.heap[k]? = some o := (h.block k hk).trans hb
theorem Upd.step {g : Nat} {w w' : World} (h : Upd g w w') {B : Nat} (hg : B ≤ g) : Below B w w' := h.below (Below.refl B w) hg
theorem Upd.setRow (w : World) (g : Nat) (cs : Array Value) : Upd g w (w.setRow g cs) :=
  ⟨rfl, rfl, rfl, by simp [World.setRow], fun k hk => by simp [World.setRow, Array.getElem?_modify, Ne.symm hk]⟩
section
variable {P : Program} {ops : Array Oper} {rest : List Oper} {o : Oper} {a : Act} {Q : Exit → Act → World → Prop}
theorem sagg_event {W : World} (hgd : o.guard = none) (T : TypeId) (p x : Operand) (ho : o.op = .store T p x) (hN : o.dst = none) (g : Nat) (vs old : Array Value) (t : TypeId)
    (hp : a.eval p = .pointer (some ⟨g, 0, none⟩)) (hx : a.eval x = .agg vs) (hb : W.heap[g]? = some (.cells old t (0, 0)))
    (hi : (P.info? T).map (·.size) = some vs.size) (hsz : old.size = vs.size) (h1 : vs.toList.all (·.oneCell') = true)
    (h : ∀ w1, w1.heap[g]? = some (.cells vs t (0, 0)) → Upd g W w1 → wpList P ops Q rest a w1) : wpList P ops Q (o :: rest) a W := by
  refine wpList_plain hgd fun K hK => ?_
  refine wp_store_row T p x ho g vs hp hx t old hb hi hsz (by rw [← Array.all_toList]; exact h1) ?_
  have h2 : a.put o.dst undef = a := by rw [hN]; rfl
  rw [h2]
  exact hK _ _ (h _ (setRow_heap W g old vs t (0, 0) hb) (Upd.setRow W g vs))
theorem scell_event {W : World} (hgd : o.guard = none) (hN : o.dst = none) (g off : Nat) (v : Value) (old : Array Value) (t : TypeId)
    (hb : W.heap[g]? = some (.cells old t (0, 0))) (hrun : (execOp a.eval o).run P W = .ok .skip (W.setCell ⟨g, off, none⟩ v))
    (h : ∀ w1, w1.heap[g]? = some (.cells (old.setIfInBounds off v) t (0, 0)) → Upd g W w1 → wpList P ops Q rest a w1) : wpList P ops Q (o :: rest) a W := by
  refine wpList_plain hgd fun K hK => ?_
  unfold Oper.wp
  rw [hrun]
  have h2 : a.put o.dst undef = a := by rw [hN]; rfl
  show K (a.put o.dst undef) _
  rw [h2]
  refine hK _ _ (h _ (blk_set hb off v) ?_)
  rw [setCell_eq_setRow W g off old t (0, 0) v hb]
  exact Upd.setRow W g _
end
end Go.Proofs.Ytehcmedeeaoebaa.PB
