import Derived.Deep.QuietTactic
import Derived.WalkSpells
namespace Go.Proofs.Ytehcmedeeaoebaa.PB
structure Held (S : World → Prop) where
  w : World
  h : S w
theorem wp_region_quiet_held {P : Program} (S : World → Prop) {id : Nat} {Q : Exit → Act → World → Prop} {a : Act} {w : World} {l : List Oper} (hm : P.follows .mixedOrders = true) (hB : Region.lexB .any l.toArray = true) (h0 : S w.drew)
    (h : wpQuiet P l.toArray (fun w' => ∃ p : Held S, w' = p.w) (fun a' => ∀ w', (∃ p : Held S, w' = p.w) → Q .normal a' w') l a) : (Code.region id l.toArray true).wp P Q a w :=
  wp_region_quiet (C := fun w' => ∃ p : Held S, w' = p.w) hm hB ⟨⟨_, h0⟩, rfl⟩ (by simpa using h)
theorem Held.call {P : Program} {S : World → Prop} {f : FuncId} {args : Array Value} {w : World} {v : Value} {T : World → World → Prop}
    (h : Calls P f args w fun e w' => e = .returned v ∧ T w w') (hT : ∀ w', T w w' → S w') : Calls P f args w fun e w'' => e = .returned v ∧ ∃ p : Held S, w'' = p.w :=
  h.mono fun _ w' ⟨he, hb⟩ => ⟨he, ⟨w', hT w' hb⟩, rfl⟩
end Go.Proofs.Ytehcmedeeaoebaa.PB
