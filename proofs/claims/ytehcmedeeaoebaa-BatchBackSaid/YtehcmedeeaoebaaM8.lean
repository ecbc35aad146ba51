import Derived.Test.YtehcmedeeaoebaaM1
import Derived.Test.YtehcmedeeaoebaaM3
import Derived.ChangeArms
import Derived.ChangeSame
import Derived.Deep.Strs
import Derived.Deep.Slices
import Derived.Lib.SmallJoins
import Derived.Test.YtehcmedeeaoebaaM7
section
namespace Go.Proofs.Ytehcmedeeaoebaa.PB
open Go.ChangeAt Go.Joins Go.Deep Go.WideShapes Go.ChangeShapes
open Go.RowKit Go.Proofs.YtehcmedeeaoebaaW.PrintWords Go.Proofs.YtehcmedeeaoebaaW.PrintLast Go.Proofs.YtehcmedeeaoebaaW.PrintMore
def Opens (W : World) {α : Type} (t : TypeId) (d : Kd α) : Prop :=
  ∀ (H : Type) (enc : TypeId × Value → H) (n : Nat) (cs : List Value) (x : DataW H × List MemPlace), DataW.trod enc Try.prog W 0 (fun _ => true) true n t cs = some x → ∃ a, d.K W a cs
theorem c4 : Try.prog.cellsOf 4 = 1 := by kernel_rfl
theorem c3 : Try.prog.cellsOf 3 = 1 := by kernel_rfl
theorem c9 : Try.prog.cellsOf 9 = 1 := by kernel_rfl
theorem c22 : Try.prog.cellsOf 22 = 1 := by kernel_rfl
theorem c65 : Try.prog.cellsOf 65 = 1 := by kernel_rfl
theorem c52 : Try.prog.cellsOf 52 = 3 := by kernel_rfl
theorem c69 : Try.prog.cellsOf 69 = 2 := by kernel_rfl
theorem c80 : Try.prog.cellsOf 80 = 3 := by kernel_rfl
theorem c67 : Try.prog.cellsOf 67 = 2 := by kernel_rfl
theorem c24 : Try.prog.cellsOf 24 = 2 := by kernel_rfl
theorem len2 {α : Type} {l : List α} (h : l.length = 2) : ∃ a b, l = [a, b] := by
  match l, h with
  | [a, b], _ => exact ⟨a, b, rfl⟩
theorem len3 {α : Type} {l : List α} (h : l.length = 3) : ∃ a b c, l = [a, b, c] := by
  match l, h with
  | [a, b, c], _ => exact ⟨a, b, c, rfl⟩
theorem opens52 (W : World) : Opens W 52 k52 := by
  intro H enc n cs x h
  obtain ⟨y0, y1, y2, m, _, hl, h0, h1, h2⟩ := trod_struct3 Try.underlying52 h
  obtain ⟨a, b, c, rfl⟩ := len3 (hl.trans c52)
  obtain ⟨s0, e0, _⟩ := DataW.trod_string Try.underlying9 h0
  obtain ⟨s1, e1, _⟩ := DataW.trod_string Try.underlying9 h1
  obtain ⟨s2, e2, _⟩ := DataW.trod_bool Try.underlying4 h2
  simp only [c9, c4, List.drop_zero, List.drop_succ_cons, List.take_succ_cons, List.take_zero, List.cons.injEq, and_true] at e0 e1 e2
  subst e0 e1 e2
  exact ⟨⟨s0, s1, s2⟩, k52_mk W _⟩
theorem opens69 (W : World) : Opens W 69 k69 := by
  intro H enc n cs x h
  obtain ⟨y0, y1, m, _, hl, h0, h1⟩ := trod_struct2 Try.underlying69 h
  obtain ⟨a, b, rfl⟩ := len2 (hl.trans c69)
  obtain ⟨s0, e0, _⟩ := DataW.trod_string Try.underlying9 h0
  obtain ⟨s1, e1, _⟩ := DataW.trod_string Try.underlying9 h1
  simp only [c9, List.drop_zero, List.drop_succ_cons, List.take_succ_cons, List.take_zero, List.cons.injEq, and_true] at e0 e1
  subst e0 e1
  exact ⟨⟨s0, s1⟩, k69_mk W _⟩
theorem opens80 (W : World) : Opens W 80 k80 := by
  intro H enc n cs x h
  obtain ⟨y0, y1, y2, m, _, hl, h0, h1, h2⟩ := trod_struct3 Try.underlying80 h
  obtain ⟨a, b, c, rfl⟩ := len3 (hl.trans c80)
  obtain ⟨s0, e0, _⟩ := DataW.trod_int Try.underlying3 h0
  obtain ⟨s1, e1, _⟩ := DataW.trod_string Try.underlying9 h1
  obtain ⟨s2, e2, _⟩ := DataW.trod_bool Try.underlying4 h2
  simp only [c3, c9, c4, List.drop_zero, List.drop_succ_cons, List.take_succ_cons, List.take_zero, List.cons.injEq, and_true] at e0 e1 e2
  subst e0 e1 e2
  exact ⟨⟨s0, s1, s2⟩, k80_mk W _⟩
theorem opens_slice {W : World} {α : Type} [Inhabited α] {t e : TypeId} {d : Kd α} (ht : Try.prog.underlying t = some (.slice e)) (hc : Try.prog.cellsOf e = d.sz) (ho : Opens W e d)
    {H : Type} {enc : TypeId × Value → H} {n : Nat} {cs : List Value} {x : DataW H × List MemPlace} (h : DataW.trod enc Try.prog W 0 (fun _ => true) true n t cs = some x) :
    ∃ A c xs, cs = [.slice A xs.length c] ∧ xs.length ≤ c ∧ Kd.C d W A xs.length xs := by
  rcases open_slice ht h with ⟨rfl, _⟩ | ⟨a, len, cap, m, k, D, Pl, rfl, hb, hl, hm, hmm, rfl, hx⟩
  · exact ⟨none, 0, [], rfl, Nat.le_refl _, rfl, by simp, fun h => absurd h (by simp)⟩
  simp only [if_true] at hmm
  subst hmm
  have H1 : ∀ i, ∃ p : α × List Value, i < len → p.2.length = d.sz ∧ d.K W p.1 p.2 ∧ ∀ j u, p.2[j]? = some u → W.cell? (a.add (i * d.sz + j)) = some u := by
    intro i
    by_cases hi : i < len
    · obtain ⟨cs', h1, h2⟩ := hx i (by omega)
      obtain ⟨q, hq⟩ := ho H enc k cs' _ h2
      obtain ⟨_, hlen, hcell⟩ := World.cells?_some h1
      rw [hc] at hlen hcell
      refine ⟨(q, cs'), fun _ => ⟨hlen, hq, fun j u hu => ?_⟩⟩
      have hj : j < cs'.length := (List.getElem?_eq_some_iff.1 hu).1
      have := hcell j (by omega)
      rw [hu, Addr.add_add] at this
      exact this
    · exact ⟨(default, []), fun h => absurd h hi⟩
  obtain ⟨F, hF⟩ := Classical.axiomOfChoice H1
  refine ⟨some a, m, (List.range len).map fun i => (F i).1, by simp, by simpa using hl, rfl, by simp; simp only [maxLen] at hm; omega, fun _ => ⟨a, rfl, fun j p hp => ?_⟩⟩
  have hj : j < len := by have := (List.getElem?_eq_some_iff.1 hp).1; simpa using this
  simp only [List.getElem?_map, List.getElem?_range hj, Option.map_some, Option.some.injEq] at hp
  obtain ⟨h1, h2, h3⟩ := hF j hj
  subst hp
  exact ⟨(F j).2, h1, h2, h3⟩
instance : Inhabited S52 := ⟨⟨⟨#[]⟩, ⟨#[]⟩, false⟩⟩
instance : Inhabited S80 := ⟨⟨0, ⟨#[]⟩, false⟩⟩
theorem opens67 (W : World) : Opens W 67 k67 := by
  intro H enc n cs x h
  obtain ⟨y0, y1, m, _, hl, h0, h1⟩ := trod_struct2 Try.underlying67 h
  obtain ⟨a, b, rfl⟩ := len2 (hl.trans c67)
  obtain ⟨s0, e0, _⟩ := DataW.trod_string Try.underlying9 h0
  obtain ⟨A, c, xs, e1, hle, hC⟩ := opens_slice Try.underlying65 c80 (opens80 W) h1
  simp only [c9, c65, List.drop_zero, List.drop_succ_cons, List.take_succ_cons, List.take_zero, List.cons.injEq, and_true] at e0 e1
  subst e0 e1
  exact ⟨⟨s0, xs⟩, k67_mk W _ hle hC⟩
end Go.Proofs.Ytehcmedeeaoebaa.PB
end
