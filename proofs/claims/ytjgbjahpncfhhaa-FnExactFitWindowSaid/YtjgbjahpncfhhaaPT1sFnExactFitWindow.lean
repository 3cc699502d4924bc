import Derived.Test.YtjgbjahpncfhhaaPT1x8
import Derived.Test.YtjgbjahpncfhhaaPT1o
namespace Go.Proofs.Ytjgbjahpncfhhaa.PT1
open Go.RowKit Go.Proofs.YtjgbjahpncfhhaaW.PrintWords
/-- The one pure statement of FnExactFitWindow. -/
def laws_FnExactFitWindow.Pure : Prop := ∀ (x0 : S24) (a1 : Int) (a2 : Int), (wf24 x0) → ((Lit.int .i64 a1).wf = true) → ((Lit.int .i64 a2).wf = true) → ∃ k, laws_FnExactFitWindow.f k x0.f0 x0.f1 x0.f2 a1 a2 = some true
end Go.Proofs.Ytjgbjahpncfhhaa.PT1
