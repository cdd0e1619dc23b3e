import Derived.Test.YtaadkpbpkeckdaaF1
import Derived.Test.YtaadkpbpkeckdaaF2
import Derived.Test.YtaadkpbpkeckdaaResets
namespace Go.Proofs.Ytaadkpbpkeckdaa.Lib
open Go.RowKit Go.Proofs.Ytaadkpbpkeckdaa.F Go.Proofs.YtaadkpbpkeckdaaW.PrintWords Go.Proofs.YtaadkpbpkeckdaaW.PrintLast Go.Proofs.YtaadkpbpkeckdaaW.PrintMore
def plain (p : Int) (ts : List Tr) : Bool := goodNet p ts && !ts.any resetT
theorem l7Plain_ev (p : Int) (ts : List Tr) (h : SmallN ts) : Evt (fun k => spec_l7Plain.f k p ts) (plain p ts) := by
  unfold spec_l7Plain.f plain
  cases hg : goodNet p ts with
  | false => exact Evt.bind ((specGoodNet_ev p ts h).cast hg) (Evt.neg (by decide) (Evt.ok _))
  | true => exact Evt.bind ((specGoodNet_ev p ts h).cast hg) (Evt.pos rfl (Evt.bind (l2Resets_ev p ts h) ((Evt.ok _).cast (by simp))))
theorem isPlain_ev (p : Int) (ts : List Tr) (h : SmallN ts) : Evt (fun k => impl_isPlain.f k p ts) (plain p ts) := by
  unfold impl_isPlain.f plain
  cases hg : goodNet p ts with
  | false => exact Evt.bind ((goodNet_ev p ts h).cast hg) (Evt.neg (by decide) (Evt.ok _))
  | true => exact Evt.bind ((goodNet_ev p ts h).cast hg) (Evt.pos rfl (Evt.bind (hasResets_ev p ts h) ((Evt.ok _).cast (by simp))))
theorem plain_good {p : Int} {ts : List Tr} (h : plain p ts = true) : goodNet p ts = true := by
  simp only [plain, Bool.and_eq_true] at h; exact h.1
end Go.Proofs.Ytaadkpbpkeckdaa.Lib
