import Derived.Test.YtehcmedeeaoebaaLbytes
import Derived.Test.YtehcmedeeaoebaaLlives
import Derived.Test.YtehcmedeeaoebaaPBambrylaw15BatchWrites
namespace Go.Proofs.Ytehcmedeeaoebaa.PB
open Go.RowKit Go.Proofs.YtehcmedeeaoebaaW.PrintWords Go.Proofs.YtehcmedeeaoebaaW.PrintLast Go.Proofs.YtehcmedeeaoebaaW.PrintMore
theorem lives_ev : Ev (fun k => ambrylaw15_lives.f k) true := ⟨40, lives_ge⟩
theorem writes_law (t : Int) (l : List S52) (n : Int) : Ev (fun k => ambrylaw15_BatchWrites.f k t l n) true := by
  have hlv : Ev (fun k => (ambrylaw15_lives.f k).bind fun t => some t) true := Ev.bind lives_ev (Ev.const _)
  unfold ambrylaw15_BatchWrites.f
  by_cases c : (l.length : Int) > 300
  · simp only [if_pos c]; exact hlv
  simp only [if_neg c]
  refine Ev.bind (Bytes_ev t l) (Ev.bind (refBytes_ev t l) (Ev.bind (Mark_ev n) (Ev.bind (refMark_ev n) ?_)))
  simp only [if_true]
  refine Ev.bind (Check_ev t l) (Ev.bind (refCheck_ev t l) ?_)
  simp only [if_true]
  exact hlv
end Go.Proofs.Ytehcmedeeaoebaa.PB
