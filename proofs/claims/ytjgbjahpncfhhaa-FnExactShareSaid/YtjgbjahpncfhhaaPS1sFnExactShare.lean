import Derived.Test.YtjgbjahpncfhhaaPS1x6
import Derived.Test.YtjgbjahpncfhhaaPS1o
namespace Go.Proofs.Ytjgbjahpncfhhaa.PS1
open Go.RowKit Go.Proofs.YtjgbjahpncfhhaaW.PrintWords
/-- The one pure statement of FnExactShare. -/
def laws_FnExactShare.Pure : Prop := ∀ (x0 : S24) (a1 : Int), (wf24 x0) → ((Lit.int .i64 a1).wf = true) → ∃ k, laws_FnExactShare.f k x0.f0 x0.f1 x0.f2 a1 = some true
end Go.Proofs.Ytjgbjahpncfhhaa.PS1
