/-
  What is known of types.
-/
import Derived.Test.YthjonkommphkkaaGreatDoorProg
import Derived.Test.YthjonkommphkkaaGreatDoorJpAm
namespace Go.Proofs.YthjonkommphkkaaGreatDoor
open Ax
theorem ti_int : ti Tryz.prog 3 = some ⟨.int .i64, 1, .int .i64 0, 8⟩ := by kernel_rfl
theorem ti_i64 : ti Tryz.prog 2 = some ⟨.int .i64, 1, .int .i64 0, 8⟩ := by kernel_rfl
theorem ti_str : ti Tryz.prog 9 = some ⟨.string, 1, .string ⟨#[]⟩, 16⟩ := by kernel_rfl
theorem ti_bool : ti Tryz.prog 4 = some ⟨.bool, 1, .bool false, 1⟩ := by kernel_rfl
theorem ti_Toks : ti Tryz.prog 53 = some ⟨.slice 58, 1, .slice none 0 0, 24⟩ := by kernel_rfl
theorem ti_Tok : ti Tryz.prog 58 = some ⟨.struct #[⟨ "Kind", 3, 0, false, "", "", 0⟩, ⟨ "At", 3, 1, false, "", "", 8⟩, ⟨ "Text", 9, 2, false, "", "", 16⟩, ⟨ "N", 2, 3, false, "", "", 32⟩], 4, .agg #[.int .i64 0, .int .i64 0, .string ⟨#[]⟩, .int .i64 0], 40⟩ := by kernel_rfl
theorem ti_Pp : ti Tryz.prog 100 = some ⟨.struct #[⟨ "L", 53, 0, false, "", "", 0⟩, ⟨ "I", 3, 1, false, "", "", 24⟩, ⟨ "Bad", 4, 2, false, "", "", 32⟩], 3, .agg #[.slice none 0 0, .int .i64 0, .bool false], 40⟩ := by kernel_rfl
theorem ti_Exs : ti Tryz.prog 43 = some ⟨.slice 45, 1, .slice none 0 0, 24⟩ := by kernel_rfl
theorem ti_Ex : ti Tryz.prog 45 = some ⟨.struct #[⟨ "Kind", 3, 0, false, "", "", 0⟩, ⟨ "N", 2, 1, false, "", "", 8⟩, ⟨ "Of", 9, 2, false, "", "", 16⟩, ⟨ "Name", 9, 3, false, "", "", 32⟩, ⟨ "Kids", 43, 4, false, "", "", 48⟩], 5, .agg #[.int .i64 0, .int .i64 0, .string ⟨#[]⟩, .string ⟨#[]⟩, .slice none 0 0], 72⟩ := by kernel_rfl
theorem ti_Sts : ti Tryz.prog 33 = some ⟨.slice 104, 1, .slice none 0 0, 24⟩ := by kernel_rfl
theorem ti_St : ti Tryz.prog 104 = some ⟨.struct #[⟨ "Kind", 3, 0, false, "", "", 0⟩, ⟨ "Name", 9, 1, false, "", "", 8⟩, ⟨ "Type", 9, 2, false, "", "", 24⟩, ⟨ "Exprs", 43, 3, false, "", "", 40⟩, ⟨ "Body", 33, 4, false, "", "", 64⟩, ⟨ "Else", 33, 5, false, "", "", 88⟩], 6, .agg #[.int .i64 0, .string ⟨#[]⟩, .string ⟨#[]⟩, .slice none 0 0, .slice none 0 0, .slice none 0 0], 112⟩ := by kernel_rfl
theorem ti_Flds : ti Tryz.prog 22 = some ⟨.slice 40, 1, .slice none 0 0, 24⟩ := by kernel_rfl
theorem ti_Fld : ti Tryz.prog 40 = some ⟨.struct #[⟨ "Name", 9, 0, false, "", "", 0⟩, ⟨ "Type", 9, 1, false, "", "", 16⟩], 2, .agg #[.string ⟨#[]⟩, .string ⟨#[]⟩], 32⟩ := by kernel_rfl
theorem ti_Mes : ti Tryz.prog 23 = some ⟨.slice 35, 1, .slice none 0 0, 24⟩ := by kernel_rfl
theorem ti_Me : ti Tryz.prog 35 = some ⟨.struct #[⟨ "Name", 9, 0, false, "", "", 0⟩, ⟨ "Static", 4, 1, false, "", "", 16⟩, ⟨ "Params", 22, 2, false, "", "", 24⟩, ⟨ "Result", 9, 3, false, "", "", 48⟩, ⟨ "Body", 33, 4, false, "", "", 64⟩], 5, .agg #[.string ⟨#[]⟩, .bool false, .slice none 0 0, .string ⟨#[]⟩, .slice none 0 0], 88⟩ := by kernel_rfl
theorem ti_Cls : ti Tryz.prog 30 = some ⟨.slice 25, 1, .slice none 0 0, 24⟩ := by kernel_rfl
theorem ti_Cl : ti Tryz.prog 25 = some ⟨.struct #[⟨ "Name", 9, 0, false, "", "", 0⟩, ⟨ "Super", 9, 1, false, "", "", 16⟩, ⟨ "Fields", 22, 2, false, "", "", 32⟩, ⟨ "Methods", 23, 3, false, "", "", 56⟩], 4, .agg #[.string ⟨#[]⟩, .string ⟨#[]⟩, .slice none 0 0, .slice none 0 0], 80⟩ := by kernel_rfl
theorem ti_So : ti Tryz.prog 32 = some ⟨.struct #[⟨ "Classes", 30, 0, false, "", "", 0⟩], 1, .agg #[.slice none 0 0], 24⟩ := by kernel_rfl
end Go.Proofs.YthjonkommphkkaaGreatDoor
