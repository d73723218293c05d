import Derived.Test.YtkdgipcfodmceaaGreatRows
import Derived.ProofKit
import Derived.KernelRfl
/- What the form asks of the program, each by itself. -/
namespace Go.Proofs.YtkdgipcfodmceaaGreat
theorem f_laid : laidOutB Tryz.prog = true := by kernel_rfl
theorem f_maps : mapsRowed Tryz.prog = true := by kernel_rfl
theorem f_plain : Tryz.prog.plainKeys = true := by kernel_rfl
theorem f_heard : Tryz.prog.stopsHeard = true := by kernel_rfl
theorem f_enter : Tryz.prog.mayEnter = true := by kernel_rfl
theorem f_lifts : Tryz.prog.liftsFinal = false := by kernel_rfl
theorem f_place : Tryz.prog.inPlace 4 = [] := by kernel_rfl
theorem f_unf : Tryz.prog.unfollowed 4 = true := by kernel_rfl
theorem f_rec : Tryz.prog.recurses 4 = true := by kernel_rfl
theorem f_named : Tryz.prog.varsNamed 4 = [] := by kernel_rfl
theorem closed : joinedFacts Tryz.prog 4 Tryz.f4 Rows.fnExactStepClueSpec Rows.fnExactStepClueRow = true := by
  unfold joinedFacts
  rw [f_laid, f_maps, f_plain, f_heard, f_enter, f_lifts, f_place, f_unf, f_rec, f_named]
  kernel_rfl
end Go.Proofs.YtkdgipcfodmceaaGreat
