/- Of the claim for One: the walk of the law and the plain facts behind it. No conditions. The functions as the interpreter takes them are those of the loaded program: looked at by the kernel. Written by a program of this session (gen.py). -/
import Derived.Test.YtnajiilcdcffdaaOneOwn1
import Derived.Test.YtnajiilcdcffdaaChecked
section
set_option maxRecDepth 100000
namespace Go.Vm.Ytnajiilcdcffdaa
open Go.Vm
theorem ok5 : fnOk Go.Proofs.Try.prog sig (drawB Go.Proofs.Try.prog sig) 5 v5 = true := by kernel_rfl
theorem ok7 : fnOk Go.Proofs.Try.prog sig (drawB Go.Proofs.Try.prog sig) 7 v7 = true := by kernel_rfl
theorem ok8 : fnOk Go.Proofs.Try.prog sig (drawB Go.Proofs.Try.prog sig) 8 v8 = true := by kernel_rfl
theorem ok9 : fnOk Go.Proofs.Try.prog sig (drawB Go.Proofs.Try.prog sig) 9 v9 = true := by kernel_rfl
theorem ok10 : fnOk Go.Proofs.Try.prog sig (drawB Go.Proofs.Try.prog sig) 10 v10 = true := by kernel_rfl
theorem ok11 : fnOk Go.Proofs.Try.prog sig (drawB Go.Proofs.Try.prog sig) 11 v11 = true := by kernel_rfl
theorem ok14 : fnOk Go.Proofs.Try.prog sig (drawB Go.Proofs.Try.prog sig) 14 v14 = true := by kernel_rfl
theorem ok25 : fnOk Go.Proofs.Try.prog sig (drawB Go.Proofs.Try.prog sig) 25 v25 = true := by kernel_rfl
theorem ok26 : fnOk Go.Proofs.Try.prog sig (drawB Go.Proofs.Try.prog sig) 26 v26 = true := by kernel_rfl
theorem ok27 : fnOk Go.Proofs.Try.prog sig (drawB Go.Proofs.Try.prog sig) 27 v27 = true := by kernel_rfl
theorem ok28 : fnOk Go.Proofs.Try.prog sig (drawB Go.Proofs.Try.prog sig) 28 v28 = true := by kernel_rfl
theorem ok29 : fnOk Go.Proofs.Try.prog sig (drawB Go.Proofs.Try.prog sig) 29 v29 = true := by kernel_rfl
theorem ok30 : fnOk Go.Proofs.Try.prog sig (drawB Go.Proofs.Try.prog sig) 30 v30 = true := by kernel_rfl
theorem ok31 : fnOk Go.Proofs.Try.prog sig (drawB Go.Proofs.Try.prog sig) 31 v31 = true := by kernel_rfl
theorem ok32 : fnOk Go.Proofs.Try.prog sig (drawB Go.Proofs.Try.prog sig) 32 v32 = true := by kernel_rfl
theorem ok42 : fnOk Go.Proofs.Try.prog sig (drawB Go.Proofs.Try.prog sig) 42 v42 = true := by kernel_rfl
theorem ok43 : fnOk Go.Proofs.Try.prog sig (drawB Go.Proofs.Try.prog sig) 43 v43 = true := by kernel_rfl
theorem ok44 : fnOk Go.Proofs.Try.prog sig (drawB Go.Proofs.Try.prog sig) 44 v44 = true := by kernel_rfl
theorem ok45 : fnOk Go.Proofs.Try.prog sig (drawB Go.Proofs.Try.prog sig) 45 v45 = true := by kernel_rfl
theorem ok46 : fnOk Go.Proofs.Try.prog sig (drawB Go.Proofs.Try.prog sig) 46 v46 = true := by kernel_rfl
theorem ok47 : fnOk Go.Proofs.Try.prog sig (drawB Go.Proofs.Try.prog sig) 47 v47 = true := by kernel_rfl
theorem ok49 : fnOk Go.Proofs.Try.prog sig (drawB Go.Proofs.Try.prog sig) 49 v49 = true := by kernel_rfl
theorem ok55 : fnOk Go.Proofs.Try.prog sig (drawB Go.Proofs.Try.prog sig) 55 v55 = true := by kernel_rfl
theorem progOk (h : Go.Proofs.Try.prog.follows .mixedOrders = true) : ProgOk Go.Proofs.Try.prog sig (drawn Go.Proofs.Try.prog sig h) code := ⟨fun f x hx => by
  unfold sig at hx
  split at hx
  · injection hx with hx; exact ⟨v5, rfl, hx.symm, ok5⟩
  · injection hx with hx; exact ⟨v7, rfl, hx.symm, ok7⟩
  · injection hx with hx; exact ⟨v8, rfl, hx.symm, ok8⟩
  · injection hx with hx; exact ⟨v9, rfl, hx.symm, ok9⟩
  · injection hx with hx; exact ⟨v10, rfl, hx.symm, ok10⟩
  · injection hx with hx; exact ⟨v11, rfl, hx.symm, ok11⟩
  · injection hx with hx; exact ⟨v14, rfl, hx.symm, ok14⟩
  · injection hx with hx; exact ⟨v25, rfl, hx.symm, ok25⟩
  · injection hx with hx; exact ⟨v26, rfl, hx.symm, ok26⟩
  · injection hx with hx; exact ⟨v27, rfl, hx.symm, ok27⟩
  · injection hx with hx; exact ⟨v28, rfl, hx.symm, ok28⟩
  · injection hx with hx; exact ⟨v29, rfl, hx.symm, ok29⟩
  · injection hx with hx; exact ⟨v30, rfl, hx.symm, ok30⟩
  · injection hx with hx; exact ⟨v31, rfl, hx.symm, ok31⟩
  · injection hx with hx; exact ⟨v32, rfl, hx.symm, ok32⟩
  · injection hx with hx; exact ⟨v42, rfl, hx.symm, ok42⟩
  · injection hx with hx; exact ⟨v43, rfl, hx.symm, ok43⟩
  · injection hx with hx; exact ⟨v44, rfl, hx.symm, ok44⟩
  · injection hx with hx; exact ⟨v45, rfl, hx.symm, ok45⟩
  · injection hx with hx; exact ⟨v46, rfl, hx.symm, ok46⟩
  · injection hx with hx; exact ⟨v47, rfl, hx.symm, ok47⟩
  · injection hx with hx; exact ⟨v49, rfl, hx.symm, ok49⟩
  · injection hx with hx; exact ⟨v55, rfl, hx.symm, ok55⟩
  · cases hx⟩
theorem serves (n : Nat) : Serves Go.Proofs.Try.prog sig (callF code n) := callF_sound _ (progOk (by kernel_rfl)) n
end Go.Vm.Ytnajiilcdcffdaa
end
