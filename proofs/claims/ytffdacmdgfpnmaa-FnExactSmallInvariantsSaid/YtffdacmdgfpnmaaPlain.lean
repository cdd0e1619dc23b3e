import Derived.Test.YtffdacmdgfpnmaaF2
import Derived.Test.YtffdacmdgfpnmaaResets
namespace Go.Proofs.Ytffdacmdgfpnmaa.Lib
open Go.RowKit Go.Proofs.Ytffdacmdgfpnmaa.F Go.Proofs.YtffdacmdgfpnmaaW.PrintWords Go.Proofs.YtffdacmdgfpnmaaW.PrintLast Go.Proofs.YtffdacmdgfpnmaaW.PrintMore
def plain (p : Int) (ts : List Tr) : Bool := goodNet p ts && !ts.any resetT
theorem l7Plain_ev (p : Int) (ts : List Tr) (h : SmallN ts) : Evt (fun k => spec_l7Plain.f k p ts) (plain p ts) := by
  unfold spec_l7Plain.f plain
  cases hg : goodNet p ts with
  | false => exact Evt.bind ((specGoodNet_ev p ts h).cast hg) (Evt.neg (by decide) (Evt.ok _))
  | true => exact Evt.bind ((specGoodNet_ev p ts h).cast hg) (Evt.pos rfl (Evt.bind (l2Resets_ev p ts h) ((Evt.ok _).cast (by simp))))
theorem isPlain_ev (p : Int) (ts : List Tr) (h : SmallN ts) : Evt (fun k => impl_isPlain.f k p ts) (plain p ts) := by
  unfold impl_isPlain.f plain
  cases hg : goodNet p ts with
  | false => exact Evt.bind ((goodNet_ev p ts h).cast hg) (Evt.neg (by decide) (Evt.ok _))
  | true => exact Evt.bind ((goodNet_ev p ts h).cast hg) (Evt.pos rfl (Evt.bind (hasResets_ev p ts h) ((Evt.ok _).cast (by simp))))
theorem plain_good {p : Int} {ts : List Tr} (h : plain p ts = true) : goodNet p ts = true := by
  simp only [plain, Bool.and_eq_true] at h; exact h.1
end Go.Proofs.Ytffdacmdgfpnmaa.Lib
