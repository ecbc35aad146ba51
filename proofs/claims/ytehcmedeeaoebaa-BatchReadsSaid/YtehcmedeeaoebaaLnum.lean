import Derived.Test.YtehcmedeeaoebaaLkit
import Derived.Test.YtehcmedeeaoebaaBreader
import Derived.Laws.BitsLemmas
namespace Go.Proofs.Ytehcmedeeaoebaa.PB
open Go.RowKit Go.Proofs.YtehcmedeeaoebaaW.PrintWords Go.Proofs.YtehcmedeeaoebaaW.PrintLast Go.Proofs.YtehcmedeeaoebaaW.PrintMore
theorem beStep_eq (n c : Int) (h0 : 0 ≤ n) (h1 : n < 72057594037927936) (c0 : 0 ≤ c) (c1 : c < 256) : beStep n c = n * 256 + c := by
  unfold beStep
  rw [IntKind.wrap_u64, IntKind.wrap_u64, show n * 256 % 18446744073709551616 = n * 256 by omega, show c % 18446744073709551616 = c by omega]
  have p8 : (2 : Int) ^ 8 = 256 := by decide
  have p64 : (2 : Int) ^ 64 = 18446744073709551616 := by decide
  exact bits_join .u64 64 (by decide) (fun n h0 h1 => by rw [IntKind.wrap_u64]; rw [p64] at h1; omega) 8 (n * 256) c (by omega) (by rw [p8]; omega) (by rw [p64]; omega) c0 (by rw [p8]; omega) (by rw [p64]; omega)
theorem be8 (a b c d e f g h : Int) (ha : 0 ≤ a ∧ a < 256) (hb : 0 ≤ b ∧ b < 256) (hc : 0 ≤ c ∧ c < 256) (hd : 0 ≤ d ∧ d < 256) (he : 0 ≤ e ∧ e < 256) (hf : 0 ≤ f ∧ f < 256) (hg : 0 ≤ g ∧ g < 256) (hh : 0 ≤ h ∧ h < 256) :
    be [a, b, c, d, e, f, g, h] = a * 72057594037927936 + b * 281474976710656 + c * 1099511627776 + d * 4294967296 + e * 16777216 + f * 65536 + g * 256 + h := by
  unfold be
  simp only [List.foldl_cons, List.foldl_nil]
  rw [beStep_eq 0 a (by omega) (by omega) ha.1 ha.2, beStep_eq _ b (by omega) (by omega) hb.1 hb.2, beStep_eq _ c (by omega) (by omega) hc.1 hc.2, beStep_eq _ d (by omega) (by omega) hd.1 hd.2, beStep_eq _ e (by omega) (by omega) he.1 he.2, beStep_eq _ f (by omega) (by omega) hf.1 hf.2, beStep_eq _ g (by omega) (by omega) hg.1 hg.2, beStep_eq _ h (by omega) (by omega) hh.1 hh.2]
  omega
theorem bytes8_list (n : Int) : bytes8 n = [n / 72057594037927936 % 256, n / 281474976710656 % 256, n / 1099511627776 % 256, n / 4294967296 % 256, n / 16777216 % 256, n / 65536 % 256, n / 256 % 256, n % 256] := by
  rw [bytes8_low]
  simp [lowBytes, byteOf]
theorem be_bytes8 (n : Int) (h0 : 0 ≤ n) (h1 : n < 18446744073709551616) : be (bytes8 n) = n := by
  rw [bytes8_list, be8 _ _ _ _ _ _ _ _ (by omega) (by omega) (by omega) (by omega) (by omega) (by omega) (by omega) (by omega)]
  omega
theorem bytes8_be (l : List Int) (hl : l.length = 8) (hb : ∀ b ∈ l, 0 ≤ b ∧ b < 256) : bytes8 (be l) = l ∧ 0 ≤ be l ∧ be l < 18446744073709551616 := by
  match l, hl with
  | [a, b, c, d, e, f, g, h], _ =>
    have ha := hb a (by simp)
    have hb' := hb b (by simp)
    have hc := hb c (by simp)
    have hd := hb d (by simp)
    have he := hb e (by simp)
    have hf := hb f (by simp)
    have hg := hb g (by simp)
    have hh := hb h (by simp)
    rw [be8 a b c d e f g h ha hb' hc hd he hf hg hh, bytes8_list]
    refine ⟨?_, by omega, by omega⟩
    simp only [List.cons.injEq, and_true]
    refine ⟨by omega, by omega, by omega, by omega, by omega, by omega, by omega, by omega⟩
end Go.Proofs.Ytehcmedeeaoebaa.PB
