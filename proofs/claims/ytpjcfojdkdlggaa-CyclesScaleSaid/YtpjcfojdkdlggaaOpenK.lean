/- How the struct types of this seat's laws are read as data. -/
import Derived.Test.YtpjcfojdkdlggaaOpen
import Derived.Test.YtpjcfojdkdlggaaHkx0
import Derived.KernelRfl
namespace Go.Proofs.Ytpjcfojdkdlggaa.Open
open Go.RowKit Go.Proofs.Ytpjcfojdkdlggaa.Hk Go.Proofs.YtpjcfojdkdlggaaW.PrintWords Go.Proofs.YtpjcfojdkdlggaaW.PrintLast Go.Proofs.YtpjcfojdkdlggaaW.PrintMore
theorem opens26 : Opens Try.prog 26 k26 (fun x => ((Lit.int .i64 x.f0).wf = true) ∧ ((Lit.int .i64 x.f1).wf = true) ∧ ((Lit.int .i64 x.f2).wf = true)) := by
  have h := opens_iso (t := 26) (fun x : S26 => (x.f0, x.f1, x.f2)) (fun y => (⟨y.1, y.2.1, y.2.2⟩ : S26)) (fun _ => rfl) (opens_struct Try.underlying26 (by kernel_rfl) (fields_cons rfl (by kernel_rfl) (opens_int Try.underlying3) (fields_cons rfl (by kernel_rfl) (opens_int Try.underlying3) (fields_last rfl (by kernel_rfl) (opens_int Try.underlying2)))))
  intro H enc W fuel cs x hx
  obtain ⟨a, ha, hw⟩ := h H enc W fuel cs x hx
  exact ⟨a, ha, hw⟩
end Go.Proofs.Ytpjcfojdkdlggaa.Open
