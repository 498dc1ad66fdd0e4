/- How the struct types of this seat's laws are read as data. -/
import Derived.Test.YtegcfaohhcjajaaOpen
import Derived.Test.YtegcfaohhcjajaaHkx0
import Derived.KernelRfl
namespace Go.Proofs.Ytegcfaohhcjajaa.Open
open Go.ChangeShapes Go.WideShapes Go.RowKit Go.Proofs.Ytegcfaohhcjajaa.Hk Go.Proofs.YtegcfaohhcjajaaW.PrintWords Go.Proofs.YtegcfaohhcjajaaW.PrintLast Go.Proofs.YtegcfaohhcjajaaW.PrintMore
theorem opens_string {P : Program} {t : TypeId} (ht : P.underlying t = some .string) : Opens P t Kd.string (fun s => s.size ≤ maxLen) := by
  intro H enc W fuel cs x h
  obtain ⟨s, rfl, _, hw⟩ := DataW.trod_string ht h
  exact ⟨s, rfl, hw⟩
theorem opens62 : Opens Try.prog 62 k62 (fun x => ((Lit.int .i64 x.f0).wf = true) ∧ ((Lit.int .i64 x.f1).wf = true) ∧ ((Lit.int .i64 x.f2).wf = true)) := by
  have h := opens_iso (t := 62) (fun x : S62 => (x.f0, x.f1, x.f2)) (fun y => (⟨y.1, y.2.1, y.2.2⟩ : S62)) (fun _ => rfl) (opens_struct Try.underlying62 (by kernel_rfl) (fields_cons rfl (by kernel_rfl) (opens_int Try.underlying3) (fields_cons rfl (by kernel_rfl) (opens_int Try.underlying3) (fields_last rfl (by kernel_rfl) (opens_int Try.underlying2)))))
  intro H enc W fuel cs x hx
  obtain ⟨a, ha, hw⟩ := h H enc W fuel cs x hx
  exact ⟨a, ha, hw⟩
theorem opens32 : Opens Try.prog 32 k32 (fun x => ((Lit.int .i64 x.f0).wf = true) ∧ ((Lit.int .i64 x.f1).wf = true) ∧ (x.f2.size ≤ maxLen)) := by
  have h := opens_iso (t := 32) (fun x : S32 => (x.f0, x.f1, x.f2)) (fun y => (⟨y.1, y.2.1, y.2.2⟩ : S32)) (fun _ => rfl) (opens_struct Try.underlying32 (by kernel_rfl) (fields_cons rfl (by kernel_rfl) (opens_int Try.underlying3) (fields_cons rfl (by kernel_rfl) (opens_int Try.underlying3) (fields_last rfl (by kernel_rfl) (opens_string Try.underlying9)))))
  intro H enc W fuel cs x hx
  obtain ⟨a, ha, hw⟩ := h H enc W fuel cs x hx
  exact ⟨a, ha, hw⟩
end Go.Proofs.Ytegcfaohhcjajaa.Open
