import Derived.Test.YtehcmedeeaoebaaPBambrylaw15lives
namespace Go.Proofs.Ytehcmedeeaoebaa.PB
open Go.RowKit Go.Proofs.YtehcmedeeaoebaaW.PrintWords Go.Proofs.YtehcmedeeaoebaaW.PrintLast Go.Proofs.YtehcmedeeaoebaaW.PrintMore
theorem lives_bytes : batch_Bytes.f 40 5 [⟨⟨#[97]⟩, ⟨#[120]⟩, false⟩] = some (⟨#[66, 0, 0, 0, 0, 0, 0, 0, 5, 1, 0, 1, 97, 1, 120]⟩, 0) := by kernel_rfl
theorem lives_read : batch_Read.f 40 ⟨#[77, 0, 0, 0, 0, 0, 0, 0, 9]⟩ = some (0, [], 9, 0) := by kernel_rfl
theorem lives_may : batch_may.f 40 ⟨#[97]⟩ [⟨5, ⟨#[]⟩, true⟩] = some true := by kernel_rfl
theorem lives_key : pairKey ⟨#[97]⟩ 5 = ⟨#[97, 15, 255, 255, 255, 255, 255, 255, 251]⟩ := by kernel_rfl
theorem lives_val : pairVal ⟨5, ⟨#[]⟩, true⟩ = ⟨#[0]⟩ := by kernel_rfl
theorem sortP_one (x : S69) : sortP [x] = [x] := List.perm_singleton.1 (sortP_spec [x]).1
theorem lives_pairs : batch_Pairs.f 40 [⟨⟨#[97]⟩, [⟨5, ⟨#[]⟩, true⟩]⟩] = some ([⟨⟨#[97, 15, 255, 255, 255, 255, 255, 255, 251]⟩, ⟨#[0]⟩⟩], 0) := by
  have e : itemAt [⟨⟨#[97]⟩, [⟨5, ⟨#[]⟩, true⟩]⟩] 0 = ⟨⟨#[97]⟩, [⟨5, ⟨#[]⟩, true⟩]⟩ := rfl
  unfold batch_Pairs.f
  simp only [List.length_singleton]
  rw [pairsL, e]
  simp only [lives_may, Option.bind_some, if_true]
  rw [if_neg (fun h => absurd h.1 (Nat.lt_irrefl 0)), if_pos (by decide), pairsL]
  simp only [List.nil_append, pairsRow, List.map_cons, List.map_nil, lives_key, lives_val, sortP_one]
theorem lives_same : ambryref10_Same.f 40 [⟨⟨#[97, 15, 255, 255, 255, 255, 255, 255, 251]⟩, ⟨#[0]⟩⟩] [⟨⟨#[97, 15, 255, 255, 255, 255, 255, 255, 251]⟩, ⟨#[0]⟩⟩] = some true := by kernel_rfl
theorem lives_40 : ambrylaw15_lives.f 40 = some true := by
  unfold ambrylaw15_lives.f
  rw [lives_bytes, lives_pairs, lives_read]
  simp only [Option.bind_some]
  rw [lives_same]
  simp only [Option.bind_some, if_true]
  rw [if_pos (by rw [Lib.toList_data])]
theorem lives_ge : ∀ k, 40 ≤ k → ambrylaw15_lives.f k = some true := by
  intro k hk
  obtain ⟨m, rfl⟩ : ∃ m, k = 40 + m := ⟨k - 40, by omega⟩
  clear hk
  induction m with
  | zero => exact lives_40
  | succ m ih => exact ambrylaw15_lives.mono _ _ ih
end Go.Proofs.Ytehcmedeeaoebaa.PB
