/-
  What is known of types.
-/
import Derived.Test.YthjonkommphkkaaDoorJpBe
set_option linter.unusedSectionVars false
set_option linter.unusedSimpArgs false
set_option linter.unnecessarySimpa false
set_option linter.unusedVariables false
namespace Go.Proofs.YthjonkommphkkaaDoor
open Ax
theorem ti_int : ti Tryd.prog 3 = some ⟨.int .i64, 1, .int .i64 0, 8⟩ := by kernel_rfl
theorem ti_i64 : ti Tryd.prog 2 = some ⟨.int .i64, 1, .int .i64 0, 8⟩ := by kernel_rfl
theorem ti_str : ti Tryd.prog 9 = some ⟨.string, 1, .string ⟨#[]⟩, 16⟩ := by kernel_rfl
theorem ti_bool : ti Tryd.prog 4 = some ⟨.bool, 1, .bool false, 1⟩ := by kernel_rfl
theorem ti_Exs : ti Tryd.prog 46 = some ⟨.slice 48, 1, .slice none 0 0, 24⟩ := by kernel_rfl
theorem ti_Ex : ti Tryd.prog 48 = some ⟨.struct #[⟨ "Kind", 3, 0, false, "", "", 0⟩, ⟨ "N", 2, 1, false, "", "", 8⟩, ⟨ "Of", 9, 2, false, "", "", 16⟩, ⟨ "Name", 9, 3, false, "", "", 32⟩, ⟨ "Kids", 46, 4, false, "", "", 48⟩], 5, .agg #[.int .i64 0, .int .i64 0, .string ⟨#[]⟩, .string ⟨#[]⟩, .slice none 0 0], 72⟩ := by kernel_rfl
theorem ti_Sts : ti Tryd.prog 64 = some ⟨.slice 84, 1, .slice none 0 0, 24⟩ := by kernel_rfl
theorem ti_St : ti Tryd.prog 84 = some ⟨.struct #[⟨ "Kind", 3, 0, false, "", "", 0⟩, ⟨ "Name", 9, 1, false, "", "", 8⟩, ⟨ "Type", 9, 2, false, "", "", 24⟩, ⟨ "Exprs", 46, 3, false, "", "", 40⟩, ⟨ "Body", 64, 4, false, "", "", 64⟩, ⟨ "Else", 64, 5, false, "", "", 88⟩], 6, .agg #[.int .i64 0, .string ⟨#[]⟩, .string ⟨#[]⟩, .slice none 0 0, .slice none 0 0, .slice none 0 0], 112⟩ := by kernel_rfl
theorem ti_Flds : ti Tryd.prog 39 = some ⟨.slice 62, 1, .slice none 0 0, 24⟩ := by kernel_rfl
theorem ti_Fld : ti Tryd.prog 62 = some ⟨.struct #[⟨ "Name", 9, 0, false, "", "", 0⟩, ⟨ "Type", 9, 1, false, "", "", 16⟩], 2, .agg #[.string ⟨#[]⟩, .string ⟨#[]⟩], 32⟩ := by kernel_rfl
theorem ti_Mes : ti Tryd.prog 40 = some ⟨.slice 66, 1, .slice none 0 0, 24⟩ := by kernel_rfl
theorem ti_Me : ti Tryd.prog 66 = some ⟨.struct #[⟨ "Name", 9, 0, false, "", "", 0⟩, ⟨ "Static", 4, 1, false, "", "", 16⟩, ⟨ "Params", 39, 2, false, "", "", 24⟩, ⟨ "Result", 9, 3, false, "", "", 48⟩, ⟨ "Body", 64, 4, false, "", "", 64⟩], 5, .agg #[.string ⟨#[]⟩, .bool false, .slice none 0 0, .string ⟨#[]⟩, .slice none 0 0], 88⟩ := by kernel_rfl
theorem ti_Cls : ti Tryd.prog 22 = some ⟨.slice 42, 1, .slice none 0 0, 24⟩ := by kernel_rfl
theorem ti_Cl : ti Tryd.prog 42 = some ⟨.struct #[⟨ "Name", 9, 0, false, "", "", 0⟩, ⟨ "Super", 9, 1, false, "", "", 16⟩, ⟨ "Fields", 39, 2, false, "", "", 32⟩, ⟨ "Methods", 40, 3, false, "", "", 56⟩], 4, .agg #[.string ⟨#[]⟩, .string ⟨#[]⟩, .slice none 0 0, .slice none 0 0], 80⟩ := by kernel_rfl
theorem ti_So : ti Tryd.prog 24 = some ⟨.struct #[⟨ "Classes", 22, 0, false, "", "", 0⟩], 1, .agg #[.slice none 0 0], 24⟩ := by kernel_rfl
theorem ti_Strs : ti Tryd.prog 95 = some ⟨.slice 9, 1, .slice none 0 0, 24⟩ := by kernel_rfl
end Go.Proofs.YthjonkommphkkaaDoor
