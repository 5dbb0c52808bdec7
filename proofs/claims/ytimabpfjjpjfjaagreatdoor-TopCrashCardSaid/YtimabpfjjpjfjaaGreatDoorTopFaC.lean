/- What the card says of the program. -/
import Derived.Test.YtimabpfjjpjfjaaGreatDoorCards
import Derived.SevenTiedAt
import Derived.KernelRfl
namespace Go.Proofs.YtimabpfjjpjfjaaGreatDoor.topCrash
set_option maxRecDepth 100000
set_option linter.all false
open Go
theorem k_wf : Rows.topCrashRow.wfByText (OpenSpec.ofChange Rows.topCrashSpec) = true := by kernel_rfl
theorem k_main : Tryz.pinned.checked.prog.mainIs = some (true, "ae0a3ed1a62589221f84e1941e821c558919253e31404afa687338751854cf33".toList) := by kernel_rfl
theorem k_looks : true = Tryz.pinned.checked.prog.looks [] := by kernel_rfl
theorem k_fn : Tryz.prog.funcNamed "escheat/escheattop.TopCrash" = some 3 := by kernel_rfl
theorem k_std : ([22, 5].all fun u => !Tryz.prog.wantsStandIn u) = true := by kernel_rfl
theorem goes_of {P : Program} {f : FuncId} {s : String} (hf : P.funcNamed s = some f) (h : P.funcs.toList.any Func.goes = false) : P.goesFrom s = false := by
  have key : ∀ g : Nat, (P.funcs[g]?).any Func.goes = false := by
    intro g
    cases hg : P.funcs[g]? with
    | none => rfl
    | some fn =>
      have hm : fn ∈ P.funcs.toList := by
        rw [Array.mem_toList_iff]; exact Array.mem_of_getElem? hg
      simpa using List.any_eq_false.1 h fn hm
  unfold Program.goesFrom
  rw [hf]
  unfold Program.goes
  simp only [Option.any_some]
  have h1 : ((P.closure f).any fun g => (P.funcs[g]?).any Func.goes) = false := by
    rw [List.any_eq_false]; intro g _; rw [key g]; exact Bool.false_ne_true
  have h2 : P.funcs.any Func.goes = false := by rw [← Array.any_toList]; exact h
  rw [h1, h2, Bool.and_false]; rfl
theorem any_cut {α : Type} (p : α → Bool) (n : Nat) {l : List α} (h1 : (l.take n).any p = false) (h2 : (l.drop n).any p = false) : l.any p = false := by
  rw [← List.take_append_drop n l, List.any_append, h1, h2]; rfl
theorem go0 : ((Tryz.prog.funcs.toList.drop 0).take 60).any Func.goes = false := by kernel_rfl
theorem go1 : ((Tryz.prog.funcs.toList.drop 60).take 60).any Func.goes = false := by kernel_rfl
theorem go2 : ((Tryz.prog.funcs.toList.drop 120).take 60).any Func.goes = false := by kernel_rfl
theorem go3 : ((Tryz.prog.funcs.toList.drop 180).take 60).any Func.goes = false := by kernel_rfl
theorem go4 : ((Tryz.prog.funcs.toList.drop 240).take 60).any Func.goes = false := by kernel_rfl
theorem go5 : ((Tryz.prog.funcs.toList.drop 300).take 60).any Func.goes = false := by kernel_rfl
theorem go6 : ((Tryz.prog.funcs.toList.drop 360).take 60).any Func.goes = false := by kernel_rfl
theorem go7 : ((Tryz.prog.funcs.toList.drop 420).take 60).any Func.goes = false := by kernel_rfl
theorem go8 : ((Tryz.prog.funcs.toList.drop 480).take 60).any Func.goes = false := by kernel_rfl
theorem go9 : ((Tryz.prog.funcs.toList.drop 540)).any Func.goes = false := by kernel_rfl
theorem go_all : Tryz.prog.funcs.toList.any Func.goes = false :=
  any_cut Func.goes 60 (by rw [show (Tryz.prog.funcs.toList.take 60) = (Tryz.prog.funcs.toList.drop 0).take 60 from rfl]; exact go0) (any_cut Func.goes 60 go1 (by rw [List.drop_drop]; exact (any_cut Func.goes 60 go2 (by rw [List.drop_drop]; exact (any_cut Func.goes 60 go3 (by rw [List.drop_drop]; exact (any_cut Func.goes 60 go4 (by rw [List.drop_drop]; exact (any_cut Func.goes 60 go5 (by rw [List.drop_drop]; exact (any_cut Func.goes 60 go6 (by rw [List.drop_drop]; exact (any_cut Func.goes 60 go7 (by rw [List.drop_drop]; exact (any_cut Func.goes 60 go8 (by rw [List.drop_drop]; exact go9))))))))))))))))
theorem k_goes : false = Rows.topCrashRow.goesBy Tryz.pinned.checked.prog := by
  have h : Tryz.prog.goesFrom "escheat/escheattop.TopCrash" = false := goes_of k_fn go_all
  unfold OpenClaim.goesBy Program.goesAt
  have e : Tryz.pinned.checked.prog.goesFrom Rows.topCrashRow.func = false := h
  rw [e]; rfl
end Go.Proofs.YtimabpfjjpjfjaaGreatDoor.topCrash
