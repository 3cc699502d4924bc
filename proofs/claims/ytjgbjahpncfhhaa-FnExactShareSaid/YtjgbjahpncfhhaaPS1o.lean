import Derived.Test.YtjgbjahpncfhhaaPS1x0
import Derived.Test.YtjgbjahpncfhhaaOPN
import Derived.KernelRfl
namespace Go.Proofs.Ytjgbjahpncfhhaa.PS1
open Go.RowKit Go.Proofs.YtjgbjahpncfhhaaW.PrintWords Go.Proofs.Ytjgbjahpncfhhaa.OPN

def wf224 (x : S224) : Prop := (Lit.int .i64 x.f0).wf = true ∧ (Lit.int .i64 x.f1).wf = true ∧ (Lit.int .i64 x.f2).wf = true
theorem op224 : Opens Try.prog 224 k224 wf224 := Opens.struct Try.underlying224 (by kernel_rfl) (Fields.cons _ rfl (Opens.int Try.underlying3) rfl (by kernel_rfl) (Fields.cons _ rfl (Opens.int Try.underlying3) rfl (by kernel_rfl) (Fields.last _ rfl (Opens.int Try.underlying3) rfl (by kernel_rfl)))) (fun x : S224 => (x.f0, x.f1, x.f2)) (fun a => (⟨a.1, a.2.1, a.2.2⟩ : S224)) (fun _ => rfl)
def wf24 (x : S24) : Prop := (Lit.int .i64 x.f0).wf = true ∧ (Lit.int .i64 x.f1).wf = true ∧ (x.f2.length ≤ 9223372036854775807 ∧ ∀ y ∈ x.f2, wf224 y)
theorem op24 : Opens Try.prog 24 k24 wf24 := Opens.struct Try.underlying24 (by kernel_rfl) (Fields.cons _ rfl (Opens.int Try.underlying3) rfl (by kernel_rfl) (Fields.cons _ rfl (Opens.int Try.underlying3) rfl (by kernel_rfl) (Fields.last _ rfl (Opens.slice Try.underlying22 (by kernel_rfl) op224) rfl (by kernel_rfl)))) (fun x : S24 => (x.f0, x.f1, x.f2)) (fun a => (⟨a.1, a.2.1, a.2.2⟩ : S24)) (fun _ => rfl)
end Go.Proofs.Ytjgbjahpncfhhaa.PS1
