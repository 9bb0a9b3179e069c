/-
  What is known of types.
-/
import Derived.Test.YtdjllogimomgmaaGreatDoorCxCmp2
namespace Go.Proofs.YtdjllogimomgmaaGreatDoor
open Ax
theorem ti_str : ti Tryz.prog 9 = some ⟨.string, 1, .string ⟨#[]⟩, 16⟩ := by kernel_rfl
theorem ti_i64 : ti Tryz.prog 2 = some ⟨.int .i64, 1, .int .i64 0, 8⟩ := by kernel_rfl
theorem ti_Cds : ti Tryz.prog 25 = some ⟨.slice 92, 1, .slice none 0 0, 24⟩ := by kernel_rfl
theorem ti_Hi : ti Tryz.prog 27 = some ⟨.struct #[⟨ "Classes", 25, 0, false, "", "", 0⟩], 1, .agg #[.slice none 0 0], 24⟩ := by kernel_rfl
theorem ti_Fus : ti Tryz.prog 28 = some ⟨.slice 46, 1, .slice none 0 0, 24⟩ := by kernel_rfl
theorem ti_Un : ti Tryz.prog 30 = some ⟨.struct #[⟨ "Hier", 27, 0, false, "", "", 0⟩, ⟨ "Funcs", 28, 1, false, "", "", 24⟩, ⟨ "Main", 3, 2, false, "", "", 48⟩], 3, .agg #[.slice none 0 0, .slice none 0 0, .int .i64 0], 56⟩ := by kernel_rfl
theorem ti_Flds : ti Tryz.prog 35 = some ⟨.slice 86, 1, .slice none 0 0, 24⟩ := by kernel_rfl
theorem ti_Inss : ti Tryz.prog 44 = some ⟨.slice 51, 1, .slice none 0 0, 24⟩ := by kernel_rfl
theorem ti_Fu : ti Tryz.prog 46 = some ⟨.struct #[⟨ "Class", 9, 0, false, "", "", 0⟩, ⟨ "Name", 9, 1, false, "", "", 16⟩, ⟨ "Static", 4, 2, false, "", "", 32⟩, ⟨ "Params", 3, 3, false, "", "", 40⟩, ⟨ "Vars", 35, 4, false, "", "", 48⟩, ⟨ "Result", 9, 5, false, "", "", 72⟩, ⟨ "Code", 44, 6, false, "", "", 88⟩], 7, .agg #[.string ⟨#[]⟩, .string ⟨#[]⟩, .bool false, .int .i64 0, .slice none 0 0, .string ⟨#[]⟩, .slice none 0 0], 112⟩ := by kernel_rfl
theorem ti_Ins : ti Tryz.prog 51 = some ⟨.struct #[⟨ "Op", 3, 0, false, "", "", 0⟩, ⟨ "Dst", 3, 1, false, "", "", 8⟩, ⟨ "A", 3, 2, false, "", "", 16⟩, ⟨ "B", 3, 3, false, "", "", 24⟩, ⟨ "N", 2, 4, false, "", "", 32⟩, ⟨ "Class", 9, 5, false, "", "", 40⟩, ⟨ "Name", 9, 6, false, "", "", 56⟩, ⟨ "Args", 49, 7, false, "", "", 72⟩, ⟨ "Goto", 3, 8, false, "", "", 96⟩, ⟨ "Catch", 3, 9, false, "", "", 104⟩], 10, .agg #[.int .i64 0, .int .i64 0, .int .i64 0, .int .i64 0, .int .i64 0, .string ⟨#[]⟩, .string ⟨#[]⟩, .slice none 0 0, .int .i64 0, .int .i64 0], 112⟩ := by kernel_rfl
theorem ti_Uss : ti Tryz.prog 66 = some ⟨.slice 69, 1, .slice none 0 0, 24⟩ := by kernel_rfl
theorem ti_Us : ti Tryz.prog 69 = some ⟨.struct #[⟨ "Func", 3, 0, false, "", "", 0⟩, ⟨ "Instr", 3, 1, false, "", "", 8⟩, ⟨ "Var", 3, 2, false, "", "", 16⟩], 3, .agg #[.int .i64 0, .int .i64 0, .int .i64 0], 24⟩ := by kernel_rfl
theorem ti_Sgs : ti Tryz.prog 90 = some ⟨.slice 108, 1, .slice none 0 0, 24⟩ := by kernel_rfl
theorem ti_Cd : ti Tryz.prog 92 = some ⟨.struct #[⟨ "Name", 9, 0, false, "", "", 0⟩, ⟨ "Super", 9, 1, false, "", "", 16⟩, ⟨ "Fields", 35, 2, false, "", "", 32⟩, ⟨ "Methods", 90, 3, false, "", "", 56⟩], 4, .agg #[.string ⟨#[]⟩, .string ⟨#[]⟩, .slice none 0 0, .slice none 0 0], 80⟩ := by kernel_rfl
theorem ti_Strs : ti Tryz.prog 106 = some ⟨.slice 9, 1, .slice none 0 0, 24⟩ := by kernel_rfl
theorem ti_Sg : ti Tryz.prog 108 = some ⟨.struct #[⟨ "Name", 9, 0, false, "", "", 0⟩, ⟨ "Static", 4, 1, false, "", "", 16⟩, ⟨ "Params", 106, 2, false, "", "", 24⟩, ⟨ "Result", 9, 3, false, "", "", 48⟩], 4, .agg #[.string ⟨#[]⟩, .bool false, .slice none 0 0, .string ⟨#[]⟩], 64⟩ := by kernel_rfl
theorem ti_Fld : ti Tryz.prog 86 = some ⟨.struct #[⟨ "Name", 9, 0, false, "", "", 0⟩, ⟨ "Type", 9, 1, false, "", "", 16⟩], 2, .agg #[.string ⟨#[]⟩, .string ⟨#[]⟩], 32⟩ := by kernel_rfl
theorem ti_Se : ti Tryz.prog 55 = some ⟨.struct #[⟨ "Kind", 3, 0, false, "", "", 0⟩, ⟨ "K", 3, 1, false, "", "", 8⟩], 2, .agg #[.int .i64 0, .int .i64 0], 16⟩ := by kernel_rfl
theorem ti_Hs : ti Tryz.prog 57 = some ⟨.struct #[⟨ "Site", 3, 0, false, "", "", 0⟩, ⟨ "Ctx", 49, 1, false, "", "", 8⟩], 2, .agg #[.int .i64 0, .slice none 0 0], 32⟩ := by kernel_rfl
end Go.Proofs.YtdjllogimomgmaaGreatDoor
