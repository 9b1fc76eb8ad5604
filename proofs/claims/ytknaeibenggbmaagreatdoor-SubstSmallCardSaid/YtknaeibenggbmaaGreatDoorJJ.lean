/- Tables of the seat, printed by tabs.py: what types and functions are, as rules for simp. -/
import Derived.Test.YtknaeibenggbmaaGreatDoorJI
import Derived.Test.YtknaeibenggbmaaGreatDoorProg
import Derived.KernelRfl
set_option linter.all false
namespace Go.Proofs.Tryz
open Go Go.Iv

@[go_sem] theorem ty_2 : tyI prog 2 = some (false, 1) := by kernel_rfl
@[go_sem] theorem int_2 : intK prog 2 = some .i64 := by kernel_rfl
@[go_sem] theorem zero_2 : zeroI prog 2 = some (.raw (.int .i64 0)) := by kernel_rfl
@[go_sem] theorem ty_3 : tyI prog 3 = some (false, 1) := by kernel_rfl
@[go_sem] theorem int_3 : intK prog 3 = some .i64 := by kernel_rfl
@[go_sem] theorem zero_3 : zeroI prog 3 = some (.raw (.int .i64 0)) := by kernel_rfl
@[go_sem] theorem ty_4 : tyI prog 4 = some (false, 1) := by kernel_rfl
@[go_sem] theorem bool_4 : isBoolT prog 4 = true := by kernel_rfl
@[go_sem] theorem zero_4 : zeroI prog 4 = some (.raw (.bool false)) := by kernel_rfl
@[go_sem] theorem ty_5 : tyI prog 5 = some (false, 1) := by kernel_rfl
@[go_sem] theorem int_5 : intK prog 5 = some .u8 := by kernel_rfl
@[go_sem] theorem zero_5 : zeroI prog 5 = some (.raw (.int .u8 0)) := by kernel_rfl
@[go_sem] theorem ty_9 : tyI prog 9 = some (false, 1) := by kernel_rfl
@[go_sem] theorem len_9 : lenI prog 9 = some .str := by kernel_rfl
@[go_sem] theorem str_9 : strT prog 9 = true := by kernel_rfl
@[go_sem] theorem zero_9 : zeroI prog 9 = some (.raw (.string ⟨#[]⟩)) := by kernel_rfl
@[go_sem] theorem ty_22 : tyI prog 22 = some (false, 1) := by kernel_rfl
@[go_sem] theorem len_22 : lenI prog 22 = some .sl := by kernel_rfl
@[go_sem] theorem sl_22 : slI prog 22 = some (33, true, 3, 48) := by kernel_rfl
@[go_sem] theorem isl_22 : isSliceT prog 22 = true := by kernel_rfl
@[go_sem] theorem zero_22 : zeroI prog 22 = some (.sl ⟨true, .nil, 0⟩ []) := by kernel_rfl
@[go_sem] theorem ty_23 : tyI prog 23 = some (false, 1) := by kernel_rfl
@[go_sem] theorem len_23 : lenI prog 23 = some .sl := by kernel_rfl
@[go_sem] theorem sl_23 : slI prog 23 = some (25, true, 4, 72) := by kernel_rfl
@[go_sem] theorem isl_23 : isSliceT prog 23 = true := by kernel_rfl
@[go_sem] theorem zero_23 : zeroI prog 23 = some (.sl ⟨true, .nil, 0⟩ []) := by kernel_rfl
@[go_sem] theorem ty_24 : tyI prog 24 = some (true, 4) := by kernel_rfl
@[go_sem] theorem fld_24_0 : fldI prog 24 0 = some (0, false, 1) := by kernel_rfl
@[go_sem] theorem fld_24_1 : fldI prog 24 1 = some (1, false, 1) := by kernel_rfl
@[go_sem] theorem fld_24_2 : fldI prog 24 2 = some (2, false, 1) := by kernel_rfl
@[go_sem] theorem fld_24_3 : fldI prog 24 3 = some (3, false, 1) := by kernel_rfl
@[go_sem] theorem flds_24 : fieldsOk prog 24 = true := by kernel_rfl
@[go_sem] theorem zero_24 : zeroI prog 24 = some (.agg [.raw (.int .u8 0), .raw (.string ⟨#[]⟩), .sl ⟨true, .nil, 0⟩ [], .sl ⟨true, .nil, 0⟩ []]) := by kernel_rfl
@[go_sem] theorem ty_25 : tyI prog 25 = some (true, 4) := by kernel_rfl
@[go_sem] theorem fld_25_0 : fldI prog 25 0 = some (0, false, 1) := by kernel_rfl
@[go_sem] theorem fld_25_1 : fldI prog 25 1 = some (1, false, 1) := by kernel_rfl
@[go_sem] theorem fld_25_2 : fldI prog 25 2 = some (2, false, 1) := by kernel_rfl
@[go_sem] theorem fld_25_3 : fldI prog 25 3 = some (3, false, 1) := by kernel_rfl
@[go_sem] theorem flds_25 : fieldsOk prog 25 = true := by kernel_rfl
@[go_sem] theorem zero_25 : zeroI prog 25 = some (.agg [.raw (.int .u8 0), .raw (.string ⟨#[]⟩), .sl ⟨true, .nil, 0⟩ [], .sl ⟨true, .nil, 0⟩ []]) := by kernel_rfl
@[go_sem] theorem ty_26 : tyI prog 26 = some (false, 1) := by kernel_rfl
@[go_sem] theorem len_26 : lenI prog 26 = some .sl := by kernel_rfl
@[go_sem] theorem sl_26 : slI prog 26 = some (35, true, 4, 64) := by kernel_rfl
@[go_sem] theorem isl_26 : isSliceT prog 26 = true := by kernel_rfl
@[go_sem] theorem zero_26 : zeroI prog 26 = some (.sl ⟨true, .nil, 0⟩ []) := by kernel_rfl
@[go_sem] theorem ty_27 : tyI prog 27 = some (false, 1) := by kernel_rfl
@[go_sem] theorem zero_27 : zeroI prog 27 = some (.raw .nilFunc) := by kernel_rfl
@[go_sem] theorem ty_28 : tyI prog 28 = some (false, 1) := by kernel_rfl
@[go_sem] theorem zero_28 : zeroI prog 28 = some (.raw .nilFunc) := by kernel_rfl
@[go_sem] theorem ty_29 : tyI prog 29 = some (false, 1) := by kernel_rfl
@[go_sem] theorem zero_29 : zeroI prog 29 = some (.raw .nilFunc) := by kernel_rfl
@[go_sem] theorem ty_30 : tyI prog 30 = some (false, 1) := by kernel_rfl
@[go_sem] theorem zero_30 : zeroI prog 30 = some (.raw .nilFunc) := by kernel_rfl
@[go_sem] theorem ty_31 : tyI prog 31 = some (false, 1) := by kernel_rfl
@[go_sem] theorem zero_31 : zeroI prog 31 = some (.raw .nilFunc) := by kernel_rfl
@[go_sem] theorem ty_32 : tyI prog 32 = some (true, 3) := by kernel_rfl
@[go_sem] theorem fld_32_0 : fldI prog 32 0 = some (0, false, 1) := by kernel_rfl
@[go_sem] theorem fld_32_1 : fldI prog 32 1 = some (1, false, 1) := by kernel_rfl
@[go_sem] theorem fld_32_2 : fldI prog 32 2 = some (2, false, 1) := by kernel_rfl
@[go_sem] theorem flds_32 : fieldsOk prog 32 = true := by kernel_rfl
@[go_sem] theorem zero_32 : zeroI prog 32 = some (.agg [.raw (.bool false), .raw (.string ⟨#[]⟩), .sl ⟨true, .nil, 0⟩ []]) := by kernel_rfl
@[go_sem] theorem ty_33 : tyI prog 33 = some (true, 3) := by kernel_rfl
@[go_sem] theorem fld_33_0 : fldI prog 33 0 = some (0, false, 1) := by kernel_rfl
@[go_sem] theorem fld_33_1 : fldI prog 33 1 = some (1, false, 1) := by kernel_rfl
@[go_sem] theorem fld_33_2 : fldI prog 33 2 = some (2, false, 1) := by kernel_rfl
@[go_sem] theorem flds_33 : fieldsOk prog 33 = true := by kernel_rfl
@[go_sem] theorem zero_33 : zeroI prog 33 = some (.agg [.raw (.bool false), .raw (.string ⟨#[]⟩), .sl ⟨true, .nil, 0⟩ []]) := by kernel_rfl
@[go_sem] theorem ty_34 : tyI prog 34 = some (true, 4) := by kernel_rfl
@[go_sem] theorem fld_34_0 : fldI prog 34 0 = some (0, false, 1) := by kernel_rfl
@[go_sem] theorem fld_34_1 : fldI prog 34 1 = some (1, true, 3) := by kernel_rfl
@[go_sem] theorem flds_34 : fieldsOk prog 34 = true := by kernel_rfl
@[go_sem] theorem zero_34 : zeroI prog 34 = some (.agg [.raw (.string ⟨#[]⟩), .raw (.bool false), .raw (.string ⟨#[]⟩), .sl ⟨true, .nil, 0⟩ []]) := by kernel_rfl
@[go_sem] theorem ty_35 : tyI prog 35 = some (true, 4) := by kernel_rfl
@[go_sem] theorem fld_35_0 : fldI prog 35 0 = some (0, false, 1) := by kernel_rfl
@[go_sem] theorem fld_35_1 : fldI prog 35 1 = some (1, true, 3) := by kernel_rfl
@[go_sem] theorem flds_35 : fieldsOk prog 35 = true := by kernel_rfl
@[go_sem] theorem zero_35 : zeroI prog 35 = some (.agg [.raw (.string ⟨#[]⟩), .raw (.bool false), .raw (.string ⟨#[]⟩), .sl ⟨true, .nil, 0⟩ []]) := by kernel_rfl
@[go_sem] theorem ty_36 : tyI prog 36 = some (false, 1) := by kernel_rfl
@[go_sem] theorem zero_36 : zeroI prog 36 = some (.raw .nilFunc) := by kernel_rfl
@[go_sem] theorem ty_37 : tyI prog 37 = some (false, 1) := by kernel_rfl
@[go_sem] theorem zero_37 : zeroI prog 37 = some (.raw .nilFunc) := by kernel_rfl
@[go_sem] theorem ty_38 : tyI prog 38 = some (false, 1) := by kernel_rfl
@[go_sem] theorem zero_38 : zeroI prog 38 = some (.raw .nilFunc) := by kernel_rfl
@[go_sem] theorem ty_39 : tyI prog 39 = some (false, 1) := by kernel_rfl
@[go_sem] theorem int_39 : intK prog 39 = some .i64 := by kernel_rfl
@[go_sem] theorem zero_39 : zeroI prog 39 = some (.raw (.int .i64 0)) := by kernel_rfl
@[go_sem] theorem ty_41 : tyI prog 41 = some (false, 1) := by kernel_rfl
@[go_sem] theorem zero_41 : zeroI prog 41 = some (.raw .nilFunc) := by kernel_rfl
@[go_sem] theorem ty_42 : tyI prog 42 = some (false, 1) := by kernel_rfl
@[go_sem] theorem zero_42 : zeroI prog 42 = some (.raw .nilFunc) := by kernel_rfl
@[go_sem] theorem ty_43 : tyI prog 43 = some (false, 1) := by kernel_rfl
@[go_sem] theorem zero_43 : zeroI prog 43 = some (.raw .nilFunc) := by kernel_rfl
@[go_sem] theorem ty_44 : tyI prog 44 = some (false, 1) := by kernel_rfl
@[go_sem] theorem zero_44 : zeroI prog 44 = some (.raw .nilFunc) := by kernel_rfl
@[go_sem] theorem ty_45 : tyI prog 45 = some (false, 1) := by kernel_rfl
@[go_sem] theorem len_45 : lenI prog 45 = some .sl := by kernel_rfl
@[go_sem] theorem sl_45 : slI prog 45 = some (9, false, 1, 16) := by kernel_rfl
@[go_sem] theorem isl_45 : isSliceT prog 45 = true := by kernel_rfl
@[go_sem] theorem zero_45 : zeroI prog 45 = some (.sl ⟨true, .nil, 0⟩ []) := by kernel_rfl
@[go_sem] theorem ty_46 : tyI prog 46 = some (false, 1) := by kernel_rfl
@[go_sem] theorem zero_46 : zeroI prog 46 = some (.raw .nilFunc) := by kernel_rfl
@[go_sem] theorem ty_47 : tyI prog 47 = some (false, 1) := by kernel_rfl
@[go_sem] theorem zero_47 : zeroI prog 47 = some (.raw .nilFunc) := by kernel_rfl
@[go_sem] theorem ty_48 : tyI prog 48 = some (false, 1) := by kernel_rfl
@[go_sem] theorem zero_48 : zeroI prog 48 = some (.raw .nilFunc) := by kernel_rfl
@[go_sem] theorem ty_49 : tyI prog 49 = some (false, 1) := by kernel_rfl
@[go_sem] theorem zero_49 : zeroI prog 49 = some (.raw .nilFunc) := by kernel_rfl
@[go_sem] theorem ty_50 : tyI prog 50 = some (false, 1) := by kernel_rfl
@[go_sem] theorem zero_50 : zeroI prog 50 = some (.raw .nilFunc) := by kernel_rfl
@[go_sem] theorem ty_51 : tyI prog 51 = some (false, 1) := by kernel_rfl
@[go_sem] theorem zero_51 : zeroI prog 51 = some (.raw .nilFunc) := by kernel_rfl
@[go_sem] theorem ty_52 : tyI prog 52 = some (false, 1) := by kernel_rfl
@[go_sem] theorem zero_52 : zeroI prog 52 = some (.raw .nilFunc) := by kernel_rfl
@[go_sem] theorem ty_53 : tyI prog 53 = some (false, 1) := by kernel_rfl
@[go_sem] theorem zero_53 : zeroI prog 53 = some (.raw .nilFunc) := by kernel_rfl
@[go_sem] theorem ty_54 : tyI prog 54 = some (false, 1) := by kernel_rfl
@[go_sem] theorem zero_54 : zeroI prog 54 = some (.raw .nilFunc) := by kernel_rfl
@[go_sem] theorem ty_55 : tyI prog 55 = some (false, 1) := by kernel_rfl
@[go_sem] theorem zero_55 : zeroI prog 55 = some (.raw .nilFunc) := by kernel_rfl
@[go_sem] theorem ty_56 : tyI prog 56 = some (false, 1) := by kernel_rfl
@[go_sem] theorem zero_56 : zeroI prog 56 = some (.raw .nilFunc) := by kernel_rfl
@[go_sem] theorem ty_57 : tyI prog 57 = some (false, 1) := by kernel_rfl
@[go_sem] theorem zero_57 : zeroI prog 57 = some (.raw .nilFunc) := by kernel_rfl
@[go_sem] theorem ty_58 : tyI prog 58 = some (false, 1) := by kernel_rfl
@[go_sem] theorem zero_58 : zeroI prog 58 = some (.raw .nilFunc) := by kernel_rfl
@[go_sem] theorem ty_59 : tyI prog 59 = some (false, 1) := by kernel_rfl
@[go_sem] theorem zero_59 : zeroI prog 59 = some (.raw .nilFunc) := by kernel_rfl
@[go_sem] theorem ty_60 : tyI prog 60 = some (false, 1) := by kernel_rfl
@[go_sem] theorem zero_60 : zeroI prog 60 = some (.raw .nilFunc) := by kernel_rfl
@[go_sem] theorem ty_61 : tyI prog 61 = some (false, 1) := by kernel_rfl
@[go_sem] theorem zero_61 : zeroI prog 61 = some (.raw .nilFunc) := by kernel_rfl
@[go_sem] theorem ty_62 : tyI prog 62 = some (false, 1) := by kernel_rfl
@[go_sem] theorem zero_62 : zeroI prog 62 = some (.raw .nilFunc) := by kernel_rfl
@[go_sem] theorem ty_63 : tyI prog 63 = some (false, 1) := by kernel_rfl
@[go_sem] theorem zero_63 : zeroI prog 63 = some (.raw .nilFunc) := by kernel_rfl
@[go_sem] theorem ty_64 : tyI prog 64 = some (false, 1) := by kernel_rfl
@[go_sem] theorem len_64 : lenI prog 64 = some .sl := by kernel_rfl
@[go_sem] theorem sl_64 : slI prog 64 = some (109, true, 4, 64) := by kernel_rfl
@[go_sem] theorem isl_64 : isSliceT prog 64 = true := by kernel_rfl
@[go_sem] theorem zero_64 : zeroI prog 64 = some (.sl ⟨true, .nil, 0⟩ []) := by kernel_rfl
@[go_sem] theorem ty_65 : tyI prog 65 = some (false, 1) := by kernel_rfl
@[go_sem] theorem zero_65 : zeroI prog 65 = some (.raw .nilFunc) := by kernel_rfl
@[go_sem] theorem ty_66 : tyI prog 66 = some (false, 1) := by kernel_rfl
@[go_sem] theorem zero_66 : zeroI prog 66 = some (.raw .nilFunc) := by kernel_rfl
@[go_sem] theorem ty_67 : tyI prog 67 = some (false, 1) := by kernel_rfl
@[go_sem] theorem zero_67 : zeroI prog 67 = some (.raw .nilFunc) := by kernel_rfl
@[go_sem] theorem ty_68 : tyI prog 68 = some (false, 1) := by kernel_rfl
@[go_sem] theorem zero_68 : zeroI prog 68 = some (.raw .nilFunc) := by kernel_rfl
@[go_sem] theorem ty_69 : tyI prog 69 = some (false, 1) := by kernel_rfl
@[go_sem] theorem zero_69 : zeroI prog 69 = some (.raw .nilFunc) := by kernel_rfl
@[go_sem] theorem ty_70 : tyI prog 70 = some (false, 1) := by kernel_rfl
@[go_sem] theorem zero_70 : zeroI prog 70 = some (.raw .nilFunc) := by kernel_rfl
@[go_sem] theorem ty_71 : tyI prog 71 = some (false, 1) := by kernel_rfl
@[go_sem] theorem len_71 : lenI prog 71 = some .sl := by kernel_rfl
@[go_sem] theorem sl_71 : slI prog 71 = some (5, false, 1, 1) := by kernel_rfl
@[go_sem] theorem isl_71 : isSliceT prog 71 = true := by kernel_rfl
@[go_sem] theorem bsl_71 : byteSl prog 71 = true := by kernel_rfl
@[go_sem] theorem zero_71 : zeroI prog 71 = some (.sl ⟨true, .nil, 0⟩ []) := by kernel_rfl
@[go_sem] theorem ty_72 : tyI prog 72 = some (false, 1) := by kernel_rfl
@[go_sem] theorem zero_72 : zeroI prog 72 = some (.raw .nilFunc) := by kernel_rfl
@[go_sem] theorem ty_73 : tyI prog 73 = some (false, 1) := by kernel_rfl
@[go_sem] theorem zero_73 : zeroI prog 73 = some (.raw .nilFunc) := by kernel_rfl
@[go_sem] theorem ty_75 : tyI prog 75 = some (false, 1) := by kernel_rfl
@[go_sem] theorem zero_75 : zeroI prog 75 = some (.raw .nilFunc) := by kernel_rfl
@[go_sem] theorem ty_76 : tyI prog 76 = some (false, 1) := by kernel_rfl
@[go_sem] theorem zero_76 : zeroI prog 76 = some (.raw .nilFunc) := by kernel_rfl
@[go_sem] theorem ty_77 : tyI prog 77 = some (false, 1) := by kernel_rfl
@[go_sem] theorem zero_77 : zeroI prog 77 = some (.raw .nilFunc) := by kernel_rfl
@[go_sem] theorem ty_78 : tyI prog 78 = some (false, 1) := by kernel_rfl
@[go_sem] theorem zero_78 : zeroI prog 78 = some (.raw .nilFunc) := by kernel_rfl
@[go_sem] theorem ty_79 : tyI prog 79 = some (true, 3) := by kernel_rfl
@[go_sem] theorem fld_79_0 : fldI prog 79 0 = some (0, false, 1) := by kernel_rfl
@[go_sem] theorem fld_79_1 : fldI prog 79 1 = some (1, false, 1) := by kernel_rfl
@[go_sem] theorem fld_79_2 : fldI prog 79 2 = some (2, false, 1) := by kernel_rfl
@[go_sem] theorem flds_79 : fieldsOk prog 79 = true := by kernel_rfl
@[go_sem] theorem zero_79 : zeroI prog 79 = some (.agg [.raw (.bool false), .raw (.int .i64 0), .raw (.int .i64 0)]) := by kernel_rfl
@[go_sem] theorem ty_80 : tyI prog 80 = some (true, 3) := by kernel_rfl
@[go_sem] theorem fld_80_0 : fldI prog 80 0 = some (0, false, 1) := by kernel_rfl
@[go_sem] theorem fld_80_1 : fldI prog 80 1 = some (1, false, 1) := by kernel_rfl
@[go_sem] theorem fld_80_2 : fldI prog 80 2 = some (2, false, 1) := by kernel_rfl
@[go_sem] theorem flds_80 : fieldsOk prog 80 = true := by kernel_rfl
@[go_sem] theorem zero_80 : zeroI prog 80 = some (.agg [.raw (.bool false), .raw (.int .i64 0), .raw (.int .i64 0)]) := by kernel_rfl
@[go_sem] theorem ty_81 : tyI prog 81 = some (false, 1) := by kernel_rfl
@[go_sem] theorem zero_81 : zeroI prog 81 = some (.raw .nilFunc) := by kernel_rfl
@[go_sem] theorem ty_82 : tyI prog 82 = some (false, 1) := by kernel_rfl
@[go_sem] theorem zero_82 : zeroI prog 82 = some (.raw .nilFunc) := by kernel_rfl
@[go_sem] theorem ty_83 : tyI prog 83 = some (false, 1) := by kernel_rfl
@[go_sem] theorem zero_83 : zeroI prog 83 = some (.raw .nilFunc) := by kernel_rfl
@[go_sem] theorem ty_84 : tyI prog 84 = some (false, 1) := by kernel_rfl
@[go_sem] theorem zero_84 : zeroI prog 84 = some (.raw .nilFunc) := by kernel_rfl
@[go_sem] theorem ty_85 : tyI prog 85 = some (false, 1) := by kernel_rfl
@[go_sem] theorem len_85 : lenI prog 85 = some .map := by kernel_rfl
@[go_sem] theorem map_85 : mapI prog 85 = some (.str, .raw (.bool false)) := by kernel_rfl
@[go_sem] theorem zero_85 : zeroI prog 85 = some (.raw (.map none)) := by kernel_rfl
@[go_sem] theorem ty_86 : tyI prog 86 = some (false, 1) := by kernel_rfl
@[go_sem] theorem zero_86 : zeroI prog 86 = some (.raw .nilFunc) := by kernel_rfl
@[go_sem] theorem ty_87 : tyI prog 87 = some (false, 1) := by kernel_rfl
@[go_sem] theorem zero_87 : zeroI prog 87 = some (.raw .nilFunc) := by kernel_rfl
@[go_sem] theorem ty_88 : tyI prog 88 = some (false, 1) := by kernel_rfl
@[go_sem] theorem zero_88 : zeroI prog 88 = some (.raw .nilFunc) := by kernel_rfl
@[go_sem] theorem ty_89 : tyI prog 89 = some (false, 1) := by kernel_rfl
@[go_sem] theorem zero_89 : zeroI prog 89 = some (.raw .nilFunc) := by kernel_rfl
@[go_sem] theorem ty_90 : tyI prog 90 = some (false, 1) := by kernel_rfl
@[go_sem] theorem len_90 : lenI prog 90 = some .sl := by kernel_rfl
@[go_sem] theorem sl_90 : slI prog 90 = some (93, true, 7, 88) := by kernel_rfl
@[go_sem] theorem isl_90 : isSliceT prog 90 = true := by kernel_rfl
@[go_sem] theorem zero_90 : zeroI prog 90 = some (.sl ⟨true, .nil, 0⟩ []) := by kernel_rfl
@[go_sem] theorem ty_91 : tyI prog 91 = some (false, 1) := by kernel_rfl
@[go_sem] theorem len_91 : lenI prog 91 = some .sl := by kernel_rfl
@[go_sem] theorem sl_91 : slI prog 91 = some (93, true, 7, 88) := by kernel_rfl
@[go_sem] theorem isl_91 : isSliceT prog 91 = true := by kernel_rfl
@[go_sem] theorem zero_91 : zeroI prog 91 = some (.sl ⟨true, .nil, 0⟩ []) := by kernel_rfl
@[go_sem] theorem ty_92 : tyI prog 92 = some (true, 7) := by kernel_rfl
@[go_sem] theorem fld_92_0 : fldI prog 92 0 = some (0, true, 4) := by kernel_rfl
@[go_sem] theorem fld_92_1 : fldI prog 92 1 = some (4, false, 1) := by kernel_rfl
@[go_sem] theorem fld_92_2 : fldI prog 92 2 = some (5, false, 1) := by kernel_rfl
@[go_sem] theorem fld_92_3 : fldI prog 92 3 = some (6, false, 1) := by kernel_rfl
@[go_sem] theorem flds_92 : fieldsOk prog 92 = true := by kernel_rfl
@[go_sem] theorem zero_92 : zeroI prog 92 = some (.agg [.raw (.string ⟨#[]⟩), .raw (.bool false), .raw (.string ⟨#[]⟩), .sl ⟨true, .nil, 0⟩ [], .raw (.map none), .raw (.int .i64 0), .raw (.int .i64 0)]) := by kernel_rfl
@[go_sem] theorem ty_93 : tyI prog 93 = some (true, 7) := by kernel_rfl
@[go_sem] theorem fld_93_0 : fldI prog 93 0 = some (0, true, 4) := by kernel_rfl
@[go_sem] theorem fld_93_1 : fldI prog 93 1 = some (4, false, 1) := by kernel_rfl
@[go_sem] theorem fld_93_2 : fldI prog 93 2 = some (5, false, 1) := by kernel_rfl
@[go_sem] theorem fld_93_3 : fldI prog 93 3 = some (6, false, 1) := by kernel_rfl
@[go_sem] theorem flds_93 : fieldsOk prog 93 = true := by kernel_rfl
@[go_sem] theorem zero_93 : zeroI prog 93 = some (.agg [.raw (.string ⟨#[]⟩), .raw (.bool false), .raw (.string ⟨#[]⟩), .sl ⟨true, .nil, 0⟩ [], .raw (.map none), .raw (.int .i64 0), .raw (.int .i64 0)]) := by kernel_rfl
@[go_sem] theorem ty_94 : tyI prog 94 = some (false, 1) := by kernel_rfl
@[go_sem] theorem zero_94 : zeroI prog 94 = some (.raw .nilFunc) := by kernel_rfl
@[go_sem] theorem ty_96 : tyI prog 96 = some (false, 1) := by kernel_rfl
@[go_sem] theorem zero_96 : zeroI prog 96 = some (.raw .nilFunc) := by kernel_rfl
@[go_sem] theorem ty_97 : tyI prog 97 = some (false, 1) := by kernel_rfl
@[go_sem] theorem len_97 : lenI prog 97 = some .map := by kernel_rfl
@[go_sem] theorem map_97 : mapI prog 97 = some (.str, .raw (.int .i64 0)) := by kernel_rfl
@[go_sem] theorem zero_97 : zeroI prog 97 = some (.raw (.map none)) := by kernel_rfl
@[go_sem] theorem ty_98 : tyI prog 98 = some (false, 1) := by kernel_rfl
@[go_sem] theorem zero_98 : zeroI prog 98 = some (.raw .nilFunc) := by kernel_rfl
@[go_sem] theorem ty_99 : tyI prog 99 = some (false, 1) := by kernel_rfl
@[go_sem] theorem zero_99 : zeroI prog 99 = some (.raw .nilFunc) := by kernel_rfl
@[go_sem] theorem ty_100 : tyI prog 100 = some (false, 1) := by kernel_rfl
@[go_sem] theorem zero_100 : zeroI prog 100 = some (.raw .nilFunc) := by kernel_rfl
@[go_sem] theorem ty_101 : tyI prog 101 = some (false, 1) := by kernel_rfl
@[go_sem] theorem zero_101 : zeroI prog 101 = some (.raw .nilFunc) := by kernel_rfl
@[go_sem] theorem ty_102 : tyI prog 102 = some (false, 1) := by kernel_rfl
@[go_sem] theorem zero_102 : zeroI prog 102 = some (.raw .nilFunc) := by kernel_rfl
@[go_sem] theorem ty_103 : tyI prog 103 = some (false, 1) := by kernel_rfl
@[go_sem] theorem zero_103 : zeroI prog 103 = some (.raw .nilFunc) := by kernel_rfl
@[go_sem] theorem ty_104 : tyI prog 104 = some (false, 1) := by kernel_rfl
@[go_sem] theorem zero_104 : zeroI prog 104 = some (.raw .nilFunc) := by kernel_rfl
@[go_sem] theorem ty_105 : tyI prog 105 = some (false, 1) := by kernel_rfl
@[go_sem] theorem len_105 : lenI prog 105 = some .map := by kernel_rfl
@[go_sem] theorem map_105 : mapI prog 105 = some (.str, .agg [.raw (.bool false), .raw (.string ⟨#[]⟩), .sl ⟨true, .nil, 0⟩ []]) := by kernel_rfl
@[go_sem] theorem zero_105 : zeroI prog 105 = some (.raw (.map none)) := by kernel_rfl
@[go_sem] theorem ty_107 : tyI prog 107 = some (false, 1) := by kernel_rfl
@[go_sem] theorem zero_107 : zeroI prog 107 = some (.raw .nilFunc) := by kernel_rfl
@[go_sem] theorem ty_108 : tyI prog 108 = some (false, 1) := by kernel_rfl
@[go_sem] theorem zero_108 : zeroI prog 108 = some (.raw .nilFunc) := by kernel_rfl
@[go_sem] theorem ty_109 : tyI prog 109 = some (true, 4) := by kernel_rfl
@[go_sem] theorem fld_109_0 : fldI prog 109 0 = some (0, false, 1) := by kernel_rfl
@[go_sem] theorem fld_109_1 : fldI prog 109 1 = some (1, true, 3) := by kernel_rfl
@[go_sem] theorem flds_109 : fieldsOk prog 109 = true := by kernel_rfl
@[go_sem] theorem zero_109 : zeroI prog 109 = some (.agg [.raw (.string ⟨#[]⟩), .raw (.bool false), .raw (.string ⟨#[]⟩), .sl ⟨true, .nil, 0⟩ []]) := by kernel_rfl
@[go_sem] theorem ty_110 : tyI prog 110 = some (false, 1) := by kernel_rfl
@[go_sem] theorem zero_110 : zeroI prog 110 = some (.raw .nilFunc) := by kernel_rfl
@[go_sem] theorem ty_111 : tyI prog 111 = some (false, 1) := by kernel_rfl
@[go_sem] theorem zero_111 : zeroI prog 111 = some (.raw .nilFunc) := by kernel_rfl
@[go_sem] theorem ty_112 : tyI prog 112 = some (false, 1) := by kernel_rfl
@[go_sem] theorem zero_112 : zeroI prog 112 = some (.raw .nilFunc) := by kernel_rfl
@[go_sem] theorem ty_113 : tyI prog 113 = some (false, 1) := by kernel_rfl
@[go_sem] theorem zero_113 : zeroI prog 113 = some (.raw .nilFunc) := by kernel_rfl
@[go_sem] theorem ty_114 : tyI prog 114 = some (false, 1) := by kernel_rfl
@[go_sem] theorem zero_114 : zeroI prog 114 = some (.raw .nilFunc) := by kernel_rfl
@[go_sem] theorem ty_115 : tyI prog 115 = some (false, 1) := by kernel_rfl
@[go_sem] theorem zero_115 : zeroI prog 115 = some (.raw .nilFunc) := by kernel_rfl
@[go_sem] theorem ty_116 : tyI prog 116 = some (false, 1) := by kernel_rfl
@[go_sem] theorem zero_116 : zeroI prog 116 = some (.raw .nilFunc) := by kernel_rfl
@[go_sem] theorem ty_117 : tyI prog 117 = some (false, 1) := by kernel_rfl
@[go_sem] theorem zero_117 : zeroI prog 117 = some (.raw .nilFunc) := by kernel_rfl
@[go_sem] theorem ty_118 : tyI prog 118 = some (false, 1) := by kernel_rfl
@[go_sem] theorem zero_118 : zeroI prog 118 = some (.raw (.pointer none)) := by kernel_rfl
@[go_sem] theorem ty_119 : tyI prog 119 = some (false, 1) := by kernel_rfl
@[go_sem] theorem zero_119 : zeroI prog 119 = some (.raw .nilFunc) := by kernel_rfl
@[go_sem] theorem ty_120 : tyI prog 120 = some (true, 5) := by kernel_rfl
@[go_sem] theorem fld_120_0 : fldI prog 120 0 = some (0, false, 1) := by kernel_rfl
@[go_sem] theorem fld_120_1 : fldI prog 120 1 = some (1, false, 1) := by kernel_rfl
@[go_sem] theorem fld_120_2 : fldI prog 120 2 = some (2, false, 1) := by kernel_rfl
@[go_sem] theorem fld_120_3 : fldI prog 120 3 = some (3, false, 1) := by kernel_rfl
@[go_sem] theorem fld_120_4 : fldI prog 120 4 = some (4, false, 1) := by kernel_rfl
@[go_sem] theorem flds_120 : fieldsOk prog 120 = true := by kernel_rfl
@[go_sem] theorem zero_120 : zeroI prog 120 = some (.agg [.raw (.bool false), .raw (.bool false), .raw (.int .u8 0), .raw (.int .i64 0), .raw (.int .i64 0)]) := by kernel_rfl
@[go_sem] theorem ty_121 : tyI prog 121 = some (true, 5) := by kernel_rfl
@[go_sem] theorem fld_121_0 : fldI prog 121 0 = some (0, false, 1) := by kernel_rfl
@[go_sem] theorem fld_121_1 : fldI prog 121 1 = some (1, false, 1) := by kernel_rfl
@[go_sem] theorem fld_121_2 : fldI prog 121 2 = some (2, false, 1) := by kernel_rfl
@[go_sem] theorem fld_121_3 : fldI prog 121 3 = some (3, false, 1) := by kernel_rfl
@[go_sem] theorem fld_121_4 : fldI prog 121 4 = some (4, false, 1) := by kernel_rfl
@[go_sem] theorem flds_121 : fieldsOk prog 121 = true := by kernel_rfl
@[go_sem] theorem zero_121 : zeroI prog 121 = some (.agg [.raw (.bool false), .raw (.bool false), .raw (.int .u8 0), .raw (.int .i64 0), .raw (.int .i64 0)]) := by kernel_rfl
@[go_sem] theorem ty_122 : tyI prog 122 = some (true, 85) := by kernel_rfl
@[go_sem] theorem len_122 : lenI prog 122 = some (.arr 17) := by kernel_rfl
@[go_sem] theorem arr_122 : arrI prog 122 = some (17, true, 5) := by kernel_rfl
@[go_sem] theorem zero_122 : zeroI prog 122 = some (.agg [.raw (.bool false), .raw (.bool false), .raw (.int .u8 0), .raw (.int .i64 0), .raw (.int .i64 0), .raw (.bool false), .raw (.bool false), .raw (.int .u8 0), .raw (.int .i64 0), .raw (.int .i64 0), .raw (.bool false), .raw (.bool false), .raw (.int .u8 0), .raw (.int .i64 0), .raw (.int .i64 0), .raw (.bool false), .raw (.bool false), .raw (.int .u8 0), .raw (.int .i64 0), .raw (.int .i64 0), .raw (.bool false), .raw (.bool false), .raw (.int .u8 0), .raw (.int .i64 0), .raw (.int .i64 0), .raw (.bool false), .raw (.bool false), .raw (.int .u8 0), .raw (.int .i64 0), .raw (.int .i64 0), .raw (.bool false), .raw (.bool false), .raw (.int .u8 0), .raw (.int .i64 0), .raw (.int .i64 0), .raw (.bool false), .raw (.bool false), .raw (.int .u8 0), .raw (.int .i64 0), .raw (.int .i64 0), .raw (.bool false), .raw (.bool false), .raw (.int .u8 0), .raw (.int .i64 0), .raw (.int .i64 0), .raw (.bool false), .raw (.bool false), .raw (.int .u8 0), .raw (.int .i64 0), .raw (.int .i64 0), .raw (.bool false), .raw (.bool false), .raw (.int .u8 0), .raw (.int .i64 0), .raw (.int .i64 0), .raw (.bool false), .raw (.bool false), .raw (.int .u8 0), .raw (.int .i64 0), .raw (.int .i64 0), .raw (.bool false), .raw (.bool false), .raw (.int .u8 0), .raw (.int .i64 0), .raw (.int .i64 0), .raw (.bool false), .raw (.bool false), .raw (.int .u8 0), .raw (.int .i64 0), .raw (.int .i64 0), .raw (.bool false), .raw (.bool false), .raw (.int .u8 0), .raw (.int .i64 0), .raw (.int .i64 0), .raw (.bool false), .raw (.bool false), .raw (.int .u8 0), .raw (.int .i64 0), .raw (.int .i64 0), .raw (.bool false), .raw (.bool false), .raw (.int .u8 0), .raw (.int .i64 0), .raw (.int .i64 0)]) := by kernel_rfl
@[go_sem] theorem ty_123 : tyI prog 123 = some (false, 1) := by kernel_rfl
@[go_sem] theorem zero_123 : zeroI prog 123 = some (.raw .nilFunc) := by kernel_rfl
@[go_sem] theorem ty_124 : tyI prog 124 = some (false, 1) := by kernel_rfl
@[go_sem] theorem zero_124 : zeroI prog 124 = some (.raw .nilFunc) := by kernel_rfl
@[go_sem] theorem ty_125 : tyI prog 125 = some (false, 1) := by kernel_rfl
@[go_sem] theorem zero_125 : zeroI prog 125 = some (.raw .nilFunc) := by kernel_rfl
@[go_sem] theorem ty_126 : tyI prog 126 = some (false, 1) := by kernel_rfl
@[go_sem] theorem zero_126 : zeroI prog 126 = some (.raw .nilFunc) := by kernel_rfl
@[go_sem] theorem ty_127 : tyI prog 127 = some (false, 1) := by kernel_rfl
@[go_sem] theorem zero_127 : zeroI prog 127 = some (.raw .nilFunc) := by kernel_rfl
@[go_sem] theorem ty_129 : tyI prog 129 = some (false, 1) := by kernel_rfl
@[go_sem] theorem zero_129 : zeroI prog 129 = some (.raw .nilFunc) := by kernel_rfl
@[go_sem] theorem ty_130 : tyI prog 130 = some (false, 1) := by kernel_rfl
@[go_sem] theorem zero_130 : zeroI prog 130 = some (.raw .nilFunc) := by kernel_rfl
@[go_sem] theorem ty_131 : tyI prog 131 = some (false, 1) := by kernel_rfl
@[go_sem] theorem len_131 : lenI prog 131 = some .sl := by kernel_rfl
@[go_sem] theorem sl_131 : slI prog 131 = some (133, true, 2, 32) := by kernel_rfl
@[go_sem] theorem isl_131 : isSliceT prog 131 = true := by kernel_rfl
@[go_sem] theorem zero_131 : zeroI prog 131 = some (.sl ⟨true, .nil, 0⟩ []) := by kernel_rfl
@[go_sem] theorem ty_132 : tyI prog 132 = some (true, 2) := by kernel_rfl
@[go_sem] theorem fld_132_0 : fldI prog 132 0 = some (0, false, 1) := by kernel_rfl
@[go_sem] theorem fld_132_1 : fldI prog 132 1 = some (1, false, 1) := by kernel_rfl
@[go_sem] theorem flds_132 : fieldsOk prog 132 = true := by kernel_rfl
@[go_sem] theorem zero_132 : zeroI prog 132 = some (.agg [.raw (.string ⟨#[]⟩), .raw (.string ⟨#[]⟩)]) := by kernel_rfl
@[go_sem] theorem ty_133 : tyI prog 133 = some (true, 2) := by kernel_rfl
@[go_sem] theorem fld_133_0 : fldI prog 133 0 = some (0, false, 1) := by kernel_rfl
@[go_sem] theorem fld_133_1 : fldI prog 133 1 = some (1, false, 1) := by kernel_rfl
@[go_sem] theorem flds_133 : fieldsOk prog 133 = true := by kernel_rfl
@[go_sem] theorem zero_133 : zeroI prog 133 = some (.agg [.raw (.string ⟨#[]⟩), .raw (.string ⟨#[]⟩)]) := by kernel_rfl
@[go_sem] theorem ty_134 : tyI prog 134 = some (false, 1) := by kernel_rfl
@[go_sem] theorem zero_134 : zeroI prog 134 = some (.raw .nilFunc) := by kernel_rfl
@[go_sem] theorem ty_135 : tyI prog 135 = some (false, 1) := by kernel_rfl
@[go_sem] theorem zero_135 : zeroI prog 135 = some (.raw .nilFunc) := by kernel_rfl
@[go_sem] theorem ty_136 : tyI prog 136 = some (false, 1) := by kernel_rfl
@[go_sem] theorem zero_136 : zeroI prog 136 = some (.raw .nilFunc) := by kernel_rfl
@[go_sem] theorem ty_137 : tyI prog 137 = some (false, 1) := by kernel_rfl
@[go_sem] theorem zero_137 : zeroI prog 137 = some (.raw .nilFunc) := by kernel_rfl
@[go_sem] theorem ty_138 : tyI prog 138 = some (false, 1) := by kernel_rfl
@[go_sem] theorem zero_138 : zeroI prog 138 = some (.raw .nilFunc) := by kernel_rfl
@[go_sem] theorem ty_139 : tyI prog 139 = some (false, 1) := by kernel_rfl
@[go_sem] theorem zero_139 : zeroI prog 139 = some (.raw .nilFunc) := by kernel_rfl
@[go_sem] theorem ty_140 : tyI prog 140 = some (false, 1) := by kernel_rfl
@[go_sem] theorem zero_140 : zeroI prog 140 = some (.raw .nilFunc) := by kernel_rfl
@[go_sem] theorem ty_141 : tyI prog 141 = some (false, 1) := by kernel_rfl
@[go_sem] theorem zero_141 : zeroI prog 141 = some (.raw .nilFunc) := by kernel_rfl
@[go_sem] theorem ty_142 : tyI prog 142 = some (false, 1) := by kernel_rfl
@[go_sem] theorem zero_142 : zeroI prog 142 = some (.raw .nilFunc) := by kernel_rfl
@[go_sem] theorem ty_143 : tyI prog 143 = some (false, 1) := by kernel_rfl
@[go_sem] theorem zero_143 : zeroI prog 143 = some (.raw .nilFunc) := by kernel_rfl
@[go_sem] theorem ty_144 : tyI prog 144 = some (false, 1) := by kernel_rfl
@[go_sem] theorem len_144 : lenI prog 144 = some .sl := by kernel_rfl
@[go_sem] theorem sl_144 : slI prog 144 = some (85, false, 1, 8) := by kernel_rfl
@[go_sem] theorem isl_144 : isSliceT prog 144 = true := by kernel_rfl
@[go_sem] theorem zero_144 : zeroI prog 144 = some (.sl ⟨true, .nil, 0⟩ []) := by kernel_rfl
@[go_sem] theorem ty_145 : tyI prog 145 = some (false, 1) := by kernel_rfl
@[go_sem] theorem zero_145 : zeroI prog 145 = some (.raw .nilFunc) := by kernel_rfl
@[go_sem] theorem ty_146 : tyI prog 146 = some (false, 1) := by kernel_rfl
@[go_sem] theorem zero_146 : zeroI prog 146 = some (.raw .nilFunc) := by kernel_rfl
@[go_sem] theorem ty_147 : tyI prog 147 = some (false, 1) := by kernel_rfl
@[go_sem] theorem zero_147 : zeroI prog 147 = some (.raw .nilFunc) := by kernel_rfl
@[go_sem] theorem ty_148 : tyI prog 148 = some (false, 1) := by kernel_rfl
@[go_sem] theorem zero_148 : zeroI prog 148 = some (.raw .nilFunc) := by kernel_rfl
@[go_sem] theorem ty_149 : tyI prog 149 = some (false, 1) := by kernel_rfl
@[go_sem] theorem zero_149 : zeroI prog 149 = some (.raw .nilFunc) := by kernel_rfl
@[go_sem] theorem ty_150 : tyI prog 150 = some (false, 1) := by kernel_rfl
@[go_sem] theorem zero_150 : zeroI prog 150 = some (.raw .nilFunc) := by kernel_rfl
@[go_sem] theorem ty_151 : tyI prog 151 = some (false, 1) := by kernel_rfl
@[go_sem] theorem zero_151 : zeroI prog 151 = some (.raw .nilFunc) := by kernel_rfl
@[go_sem] theorem ty_152 : tyI prog 152 = some (false, 1) := by kernel_rfl
@[go_sem] theorem zero_152 : zeroI prog 152 = some (.raw .nilFunc) := by kernel_rfl
@[go_sem] theorem ty_153 : tyI prog 153 = some (false, 1) := by kernel_rfl
@[go_sem] theorem zero_153 : zeroI prog 153 = some (.raw .nilFunc) := by kernel_rfl
@[go_sem] theorem ty_154 : tyI prog 154 = some (false, 1) := by kernel_rfl
@[go_sem] theorem zero_154 : zeroI prog 154 = some (.raw .nilFunc) := by kernel_rfl
@[go_sem] theorem ty_155 : tyI prog 155 = some (false, 1) := by kernel_rfl
@[go_sem] theorem int_155 : intK prog 155 = some .u64 := by kernel_rfl
@[go_sem] theorem zero_155 : zeroI prog 155 = some (.raw (.int .u64 0)) := by kernel_rfl
@[go_sem] theorem ty_156 : tyI prog 156 = some (false, 1) := by kernel_rfl
@[go_sem] theorem zero_156 : zeroI prog 156 = some (.raw .nilFunc) := by kernel_rfl
@[go_sem] theorem ty_157 : tyI prog 157 = some (false, 1) := by kernel_rfl
@[go_sem] theorem zero_157 : zeroI prog 157 = some (.raw .nilFunc) := by kernel_rfl
@[go_sem] theorem ty_158 : tyI prog 158 = some (false, 1) := by kernel_rfl
@[go_sem] theorem zero_158 : zeroI prog 158 = some (.raw .nilFunc) := by kernel_rfl
@[go_sem] theorem ty_159 : tyI prog 159 = some (false, 1) := by kernel_rfl
@[go_sem] theorem int_159 : intK prog 159 = some .i64 := by kernel_rfl
@[go_sem] theorem zero_159 : zeroI prog 159 = some (.raw (.int .i64 0)) := by kernel_rfl
@[go_sem] theorem ty_161 : tyI prog 161 = some (false, 1) := by kernel_rfl
@[go_sem] theorem zero_161 : zeroI prog 161 = some (.raw .nilFunc) := by kernel_rfl
@[go_sem] theorem ty_162 : tyI prog 162 = some (false, 1) := by kernel_rfl
@[go_sem] theorem zero_162 : zeroI prog 162 = some (.raw .nilFunc) := by kernel_rfl
@[go_sem] theorem ty_163 : tyI prog 163 = some (false, 1) := by kernel_rfl
@[go_sem] theorem zero_163 : zeroI prog 163 = some (.raw .nilFunc) := by kernel_rfl
@[go_sem] theorem ty_165 : tyI prog 165 = some (false, 1) := by kernel_rfl
@[go_sem] theorem zero_165 : zeroI prog 165 = some (.raw .nilFunc) := by kernel_rfl
@[go_sem] theorem ty_166 : tyI prog 166 = some (false, 1) := by kernel_rfl
@[go_sem] theorem zero_166 : zeroI prog 166 = some (.raw .nilFunc) := by kernel_rfl
@[go_sem] theorem ty_167 : tyI prog 167 = some (false, 1) := by kernel_rfl
@[go_sem] theorem int_167 : intK prog 167 = some .u32 := by kernel_rfl
@[go_sem] theorem zero_167 : zeroI prog 167 = some (.raw (.int .u32 0)) := by kernel_rfl
@[go_sem] theorem ty_168 : tyI prog 168 = some (false, 1) := by kernel_rfl
@[go_sem] theorem zero_168 : zeroI prog 168 = some (.raw .nilFunc) := by kernel_rfl
@[go_sem] theorem ty_169 : tyI prog 169 = some (false, 1) := by kernel_rfl
@[go_sem] theorem int_169 : intK prog 169 = some .u64 := by kernel_rfl
@[go_sem] theorem zero_169 : zeroI prog 169 = some (.raw (.int .u64 0)) := by kernel_rfl
@[go_sem] theorem ty_170 : tyI prog 170 = some (false, 1) := by kernel_rfl
@[go_sem] theorem zero_170 : zeroI prog 170 = some (.raw .nilFunc) := by kernel_rfl
@[go_sem] theorem ty_171 : tyI prog 171 = some (false, 1) := by kernel_rfl
@[go_sem] theorem int_171 : intK prog 171 = some .u64 := by kernel_rfl
@[go_sem] theorem zero_171 : zeroI prog 171 = some (.raw (.int .u64 0)) := by kernel_rfl
@[go_sem] theorem ty_172 : tyI prog 172 = some (false, 1) := by kernel_rfl
@[go_sem] theorem zero_172 : zeroI prog 172 = some (.raw .nilFunc) := by kernel_rfl
@[go_sem] theorem ty_173 : tyI prog 173 = some (false, 1) := by kernel_rfl
@[go_sem] theorem zero_173 : zeroI prog 173 = some (.raw .nilFunc) := by kernel_rfl
@[go_sem] theorem ty_174 : tyI prog 174 = some (false, 1) := by kernel_rfl
@[go_sem] theorem zero_174 : zeroI prog 174 = some (.raw .nilFunc) := by kernel_rfl
@[go_sem] theorem ty_175 : tyI prog 175 = some (false, 1) := by kernel_rfl
@[go_sem] theorem zero_175 : zeroI prog 175 = some (.raw (.pointer none)) := by kernel_rfl
@[go_sem] theorem ty_176 : tyI prog 176 = some (false, 1) := by kernel_rfl
@[go_sem] theorem zero_176 : zeroI prog 176 = some (.raw .nilFunc) := by kernel_rfl
@[go_sem] theorem ty_177 : tyI prog 177 = some (true, 24) := by kernel_rfl
@[go_sem] theorem len_177 : lenI prog 177 = some (.arr 24) := by kernel_rfl
@[go_sem] theorem arr_177 : arrI prog 177 = some (24, false, 1) := by kernel_rfl
@[go_sem] theorem zero_177 : zeroI prog 177 = some (.agg [.raw (.int .u8 0), .raw (.int .u8 0), .raw (.int .u8 0), .raw (.int .u8 0), .raw (.int .u8 0), .raw (.int .u8 0), .raw (.int .u8 0), .raw (.int .u8 0), .raw (.int .u8 0), .raw (.int .u8 0), .raw (.int .u8 0), .raw (.int .u8 0), .raw (.int .u8 0), .raw (.int .u8 0), .raw (.int .u8 0), .raw (.int .u8 0), .raw (.int .u8 0), .raw (.int .u8 0), .raw (.int .u8 0), .raw (.int .u8 0), .raw (.int .u8 0), .raw (.int .u8 0), .raw (.int .u8 0), .raw (.int .u8 0)]) := by kernel_rfl
@[go_sem] theorem ty_178 : tyI prog 178 = some (false, 1) := by kernel_rfl
@[go_sem] theorem zero_178 : zeroI prog 178 = some (.raw .nilFunc) := by kernel_rfl
@[go_sem] theorem ty_180 : tyI prog 180 = some (false, 1) := by kernel_rfl
@[go_sem] theorem zero_180 : zeroI prog 180 = some (.raw .nilFunc) := by kernel_rfl
@[go_sem] theorem ty_181 : tyI prog 181 = some (false, 1) := by kernel_rfl
@[go_sem] theorem zero_181 : zeroI prog 181 = some (.raw (.pointer none)) := by kernel_rfl
@[go_sem] theorem ty_182 : tyI prog 182 = some (false, 1) := by kernel_rfl
@[go_sem] theorem zero_182 : zeroI prog 182 = some (.raw .nilFunc) := by kernel_rfl
@[go_sem] theorem ty_183 : tyI prog 183 = some (false, 1) := by kernel_rfl
@[go_sem] theorem zero_183 : zeroI prog 183 = some (.raw .nilFunc) := by kernel_rfl
@[go_sem] theorem ty_184 : tyI prog 184 = some (false, 1) := by kernel_rfl
@[go_sem] theorem zero_184 : zeroI prog 184 = some (.raw .nilFunc) := by kernel_rfl
@[go_sem] theorem ty_185 : tyI prog 185 = some (true, 20) := by kernel_rfl
@[go_sem] theorem len_185 : lenI prog 185 = some (.arr 20) := by kernel_rfl
@[go_sem] theorem arr_185 : arrI prog 185 = some (20, false, 1) := by kernel_rfl
@[go_sem] theorem zero_185 : zeroI prog 185 = some (.agg [.raw (.int .u64 0), .raw (.int .u64 0), .raw (.int .u64 0), .raw (.int .u64 0), .raw (.int .u64 0), .raw (.int .u64 0), .raw (.int .u64 0), .raw (.int .u64 0), .raw (.int .u64 0), .raw (.int .u64 0), .raw (.int .u64 0), .raw (.int .u64 0), .raw (.int .u64 0), .raw (.int .u64 0), .raw (.int .u64 0), .raw (.int .u64 0), .raw (.int .u64 0), .raw (.int .u64 0), .raw (.int .u64 0), .raw (.int .u64 0)]) := by kernel_rfl
@[go_sem] theorem ty_186 : tyI prog 186 = some (true, 65) := by kernel_rfl
@[go_sem] theorem len_186 : lenI prog 186 = some (.arr 65) := by kernel_rfl
@[go_sem] theorem arr_186 : arrI prog 186 = some (65, false, 1) := by kernel_rfl
@[go_sem] theorem zero_186 : zeroI prog 186 = some (.agg [.raw (.int .u8 0), .raw (.int .u8 0), .raw (.int .u8 0), .raw (.int .u8 0), .raw (.int .u8 0), .raw (.int .u8 0), .raw (.int .u8 0), .raw (.int .u8 0), .raw (.int .u8 0), .raw (.int .u8 0), .raw (.int .u8 0), .raw (.int .u8 0), .raw (.int .u8 0), .raw (.int .u8 0), .raw (.int .u8 0), .raw (.int .u8 0), .raw (.int .u8 0), .raw (.int .u8 0), .raw (.int .u8 0), .raw (.int .u8 0), .raw (.int .u8 0), .raw (.int .u8 0), .raw (.int .u8 0), .raw (.int .u8 0), .raw (.int .u8 0), .raw (.int .u8 0), .raw (.int .u8 0), .raw (.int .u8 0), .raw (.int .u8 0), .raw (.int .u8 0), .raw (.int .u8 0), .raw (.int .u8 0), .raw (.int .u8 0), .raw (.int .u8 0), .raw (.int .u8 0), .raw (.int .u8 0), .raw (.int .u8 0), .raw (.int .u8 0), .raw (.int .u8 0), .raw (.int .u8 0), .raw (.int .u8 0), .raw (.int .u8 0), .raw (.int .u8 0), .raw (.int .u8 0), .raw (.int .u8 0), .raw (.int .u8 0), .raw (.int .u8 0), .raw (.int .u8 0), .raw (.int .u8 0), .raw (.int .u8 0), .raw (.int .u8 0), .raw (.int .u8 0), .raw (.int .u8 0), .raw (.int .u8 0), .raw (.int .u8 0), .raw (.int .u8 0), .raw (.int .u8 0), .raw (.int .u8 0), .raw (.int .u8 0), .raw (.int .u8 0), .raw (.int .u8 0), .raw (.int .u8 0), .raw (.int .u8 0), .raw (.int .u8 0), .raw (.int .u8 0)]) := by kernel_rfl
@[go_sem] theorem ty_187 : tyI prog 187 = some (true, 32) := by kernel_rfl
@[go_sem] theorem len_187 : lenI prog 187 = some (.arr 32) := by kernel_rfl
@[go_sem] theorem arr_187 : arrI prog 187 = some (32, false, 1) := by kernel_rfl
@[go_sem] theorem zero_187 : zeroI prog 187 = some (.agg [.raw (.int .u8 0), .raw (.int .u8 0), .raw (.int .u8 0), .raw (.int .u8 0), .raw (.int .u8 0), .raw (.int .u8 0), .raw (.int .u8 0), .raw (.int .u8 0), .raw (.int .u8 0), .raw (.int .u8 0), .raw (.int .u8 0), .raw (.int .u8 0), .raw (.int .u8 0), .raw (.int .u8 0), .raw (.int .u8 0), .raw (.int .u8 0), .raw (.int .u8 0), .raw (.int .u8 0), .raw (.int .u8 0), .raw (.int .u8 0), .raw (.int .u8 0), .raw (.int .u8 0), .raw (.int .u8 0), .raw (.int .u8 0), .raw (.int .u8 0), .raw (.int .u8 0), .raw (.int .u8 0), .raw (.int .u8 0), .raw (.int .u8 0), .raw (.int .u8 0), .raw (.int .u8 0), .raw (.int .u8 0)]) := by kernel_rfl
@[go_sem] theorem ty_188 : tyI prog 188 = some (true, 64) := by kernel_rfl
@[go_sem] theorem len_188 : lenI prog 188 = some (.arr 64) := by kernel_rfl
@[go_sem] theorem arr_188 : arrI prog 188 = some (64, false, 1) := by kernel_rfl
@[go_sem] theorem zero_188 : zeroI prog 188 = some (.agg [.raw (.int .u8 0), .raw (.int .u8 0), .raw (.int .u8 0), .raw (.int .u8 0), .raw (.int .u8 0), .raw (.int .u8 0), .raw (.int .u8 0), .raw (.int .u8 0), .raw (.int .u8 0), .raw (.int .u8 0), .raw (.int .u8 0), .raw (.int .u8 0), .raw (.int .u8 0), .raw (.int .u8 0), .raw (.int .u8 0), .raw (.int .u8 0), .raw (.int .u8 0), .raw (.int .u8 0), .raw (.int .u8 0), .raw (.int .u8 0), .raw (.int .u8 0), .raw (.int .u8 0), .raw (.int .u8 0), .raw (.int .u8 0), .raw (.int .u8 0), .raw (.int .u8 0), .raw (.int .u8 0), .raw (.int .u8 0), .raw (.int .u8 0), .raw (.int .u8 0), .raw (.int .u8 0), .raw (.int .u8 0), .raw (.int .u8 0), .raw (.int .u8 0), .raw (.int .u8 0), .raw (.int .u8 0), .raw (.int .u8 0), .raw (.int .u8 0), .raw (.int .u8 0), .raw (.int .u8 0), .raw (.int .u8 0), .raw (.int .u8 0), .raw (.int .u8 0), .raw (.int .u8 0), .raw (.int .u8 0), .raw (.int .u8 0), .raw (.int .u8 0), .raw (.int .u8 0), .raw (.int .u8 0), .raw (.int .u8 0), .raw (.int .u8 0), .raw (.int .u8 0), .raw (.int .u8 0), .raw (.int .u8 0), .raw (.int .u8 0), .raw (.int .u8 0), .raw (.int .u8 0), .raw (.int .u8 0), .raw (.int .u8 0), .raw (.int .u8 0), .raw (.int .u8 0), .raw (.int .u8 0), .raw (.int .u8 0), .raw (.int .u8 0)]) := by kernel_rfl
@[go_sem] theorem ty_189 : tyI prog 189 = some (false, 1) := by kernel_rfl
@[go_sem] theorem zero_189 : zeroI prog 189 = some (.raw .nilFunc) := by kernel_rfl
@[go_sem] theorem ty_195 : tyI prog 195 = some (false, 1) := by kernel_rfl
@[go_sem] theorem zero_195 : zeroI prog 195 = some (.raw .nilFunc) := by kernel_rfl
@[go_sem] theorem ty_199 : tyI prog 199 = some (false, 1) := by kernel_rfl
@[go_sem] theorem zero_199 : zeroI prog 199 = some (.raw (.pointer none)) := by kernel_rfl
@[go_sem] theorem ent_3 : entI prog 3 = true := by kernel_rfl
@[go_sem] theorem res_3 : f3.results.toList = [.tmp 4] := rfl
@[go_sem] theorem ent_4 : entI prog 4 = true := by kernel_rfl
@[go_sem] theorem res_4 : f4.results.toList = [.tmp 4] := rfl
@[go_sem] theorem ent_5 : entI prog 5 = true := by kernel_rfl
@[go_sem] theorem res_5 : f5.results.toList = [.tmp 6] := rfl
@[go_sem] theorem ent_6 : entI prog 6 = true := by kernel_rfl
@[go_sem] theorem res_6 : f6.results.toList = [.tmp 4] := rfl
@[go_sem] theorem ent_7 : entI prog 7 = true := by kernel_rfl
@[go_sem] theorem res_7 : f7.results.toList = [.tmp 4] := rfl
@[go_sem] theorem ent_8 : entI prog 8 = true := by kernel_rfl
@[go_sem] theorem res_8 : f8.results.toList = [.tmp 4] := rfl
@[go_sem] theorem ent_9 : entI prog 9 = true := by kernel_rfl
@[go_sem] theorem res_9 : f9.results.toList = [.tmp 6] := rfl
@[go_sem] theorem ent_10 : entI prog 10 = true := by kernel_rfl
@[go_sem] theorem res_10 : f10.results.toList = [.tmp 6] := rfl
@[go_sem] theorem ent_11 : entI prog 11 = true := by kernel_rfl
@[go_sem] theorem res_11 : f11.results.toList = [.tmp 4] := rfl
@[go_sem] theorem ent_12 : entI prog 12 = true := by kernel_rfl
@[go_sem] theorem res_12 : f12.results.toList = [.tmp 10] := rfl
@[go_sem] theorem ent_13 : entI prog 13 = true := by kernel_rfl
@[go_sem] theorem res_13 : f13.results.toList = [.tmp 4] := rfl
@[go_sem] theorem ent_14 : entI prog 14 = true := by kernel_rfl
@[go_sem] theorem res_14 : f14.results.toList = [.tmp 0] := rfl
@[go_sem] theorem ent_15 : entI prog 15 = true := by kernel_rfl
@[go_sem] theorem res_15 : f15.results.toList = [.tmp 2] := rfl
@[go_sem] theorem ent_16 : entI prog 16 = true := by kernel_rfl
@[go_sem] theorem res_16 : f16.results.toList = [.tmp 2] := rfl
@[go_sem] theorem ent_17 : entI prog 17 = true := by kernel_rfl
@[go_sem] theorem res_17 : f17.results.toList = [.tmp 4] := rfl
@[go_sem] theorem ent_18 : entI prog 18 = true := by kernel_rfl
@[go_sem] theorem res_18 : f18.results.toList = [.tmp 0] := rfl
@[go_sem] theorem ent_19 : entI prog 19 = true := by kernel_rfl
@[go_sem] theorem res_19 : f19.results.toList = [.tmp 4] := rfl
@[go_sem] theorem ent_20 : entI prog 20 = true := by kernel_rfl
@[go_sem] theorem res_20 : f20.results.toList = [.tmp 2] := rfl
@[go_sem] theorem ent_21 : entI prog 21 = true := by kernel_rfl
@[go_sem] theorem res_21 : f21.results.toList = [.tmp 2] := rfl
@[go_sem] theorem ent_22 : entI prog 22 = true := by kernel_rfl
@[go_sem] theorem res_22 : f22.results.toList = [.tmp 2] := rfl
@[go_sem] theorem ent_23 : entI prog 23 = true := by kernel_rfl
@[go_sem] theorem res_23 : f23.results.toList = [.cell 6 25, .tmp 7] := rfl
@[go_sem] theorem ent_24 : entI prog 24 = true := by kernel_rfl
@[go_sem] theorem res_24 : f24.results.toList = [.cell 2 33] := rfl
@[go_sem] theorem ent_25 : entI prog 25 = true := by kernel_rfl
@[go_sem] theorem res_25 : f25.results.toList = [.cell 4 25, .tmp 5] := rfl
@[go_sem] theorem ent_26 : entI prog 26 = true := by kernel_rfl
@[go_sem] theorem res_26 : f26.results.toList = [.tmp 4] := rfl
@[go_sem] theorem ent_27 : entI prog 27 = true := by kernel_rfl
@[go_sem] theorem res_27 : f27.results.toList = [.tmp 4] := rfl
@[go_sem] theorem ent_28 : entI prog 28 = true := by kernel_rfl
@[go_sem] theorem res_28 : f28.results.toList = [.tmp 2] := rfl
@[go_sem] theorem ent_29 : entI prog 29 = true := by kernel_rfl
@[go_sem] theorem res_29 : f29.results.toList = [.cell 2 25, .tmp 3] := rfl
@[go_sem] theorem ent_30 : entI prog 30 = true := by kernel_rfl
@[go_sem] theorem res_30 : f30.results.toList = [.tmp 4] := rfl
@[go_sem] theorem ent_31 : entI prog 31 = true := by kernel_rfl
@[go_sem] theorem res_31 : f31.results.toList = [.tmp 4] := rfl
@[go_sem] theorem ent_32 : entI prog 32 = true := by kernel_rfl
@[go_sem] theorem res_32 : f32.results.toList = [.tmp 4] := rfl
@[go_sem] theorem ent_33 : entI prog 33 = true := by kernel_rfl
@[go_sem] theorem res_33 : f33.results.toList = [.tmp 2] := rfl
@[go_sem] theorem ent_34 : entI prog 34 = true := by kernel_rfl
@[go_sem] theorem res_34 : f34.results.toList = [.cell 6 25] := rfl
@[go_sem] theorem ent_35 : entI prog 35 = true := by kernel_rfl
@[go_sem] theorem res_35 : f35.results.toList = [.cell 4 33] := rfl
@[go_sem] theorem ent_36 : entI prog 36 = true := by kernel_rfl
@[go_sem] theorem res_36 : f36.results.toList = [.tmp 2] := rfl
@[go_sem] theorem ent_37 : entI prog 37 = true := by kernel_rfl
@[go_sem] theorem res_37 : f37.results.toList = [.tmp 6] := rfl
@[go_sem] theorem ent_38 : entI prog 38 = true := by kernel_rfl
@[go_sem] theorem res_38 : f38.results.toList = [.cell 4 25] := rfl
@[go_sem] theorem ent_39 : entI prog 39 = true := by kernel_rfl
@[go_sem] theorem res_39 : f39.results.toList = [.tmp 2] := rfl
@[go_sem] theorem ent_40 : entI prog 40 = true := by kernel_rfl
@[go_sem] theorem res_40 : f40.results.toList = [.tmp 2] := rfl
@[go_sem] theorem ent_41 : entI prog 41 = true := by kernel_rfl
@[go_sem] theorem res_41 : f41.results.toList = [.cell 4 33] := rfl
@[go_sem] theorem ent_42 : entI prog 42 = true := by kernel_rfl
@[go_sem] theorem res_42 : f42.results.toList = [.tmp 4] := rfl
@[go_sem] theorem ent_43 : entI prog 43 = true := by kernel_rfl
@[go_sem] theorem res_43 : f43.results.toList = [.cell 4 33] := rfl
@[go_sem] theorem ent_44 : entI prog 44 = true := by kernel_rfl
@[go_sem] theorem res_44 : f44.results.toList = [.tmp 2] := rfl
@[go_sem] theorem ent_45 : entI prog 45 = true := by kernel_rfl
@[go_sem] theorem res_45 : f45.results.toList = [] := rfl
@[go_sem] theorem ent_46 : entI prog 46 = true := by kernel_rfl
@[go_sem] theorem res_46 : f46.results.toList = [.tmp 4] := rfl
@[go_sem] theorem ent_47 : entI prog 47 = true := by kernel_rfl
@[go_sem] theorem res_47 : f47.results.toList = [.tmp 2] := rfl
@[go_sem] theorem ent_48 : entI prog 48 = true := by kernel_rfl
@[go_sem] theorem res_48 : f48.results.toList = [.tmp 2] := rfl
@[go_sem] theorem ent_49 : entI prog 49 = true := by kernel_rfl
@[go_sem] theorem res_49 : f49.results.toList = [.tmp 2] := rfl
@[go_sem] theorem ent_50 : entI prog 50 = true := by kernel_rfl
@[go_sem] theorem res_50 : f50.results.toList = [.tmp 0] := rfl
@[go_sem] theorem ent_51 : entI prog 51 = true := by kernel_rfl
@[go_sem] theorem res_51 : f51.results.toList = [.tmp 4] := rfl
@[go_sem] theorem ent_52 : entI prog 52 = true := by kernel_rfl
@[go_sem] theorem res_52 : f52.results.toList = [.cell 2 25] := rfl
@[go_sem] theorem ent_53 : entI prog 53 = true := by kernel_rfl
@[go_sem] theorem res_53 : f53.results.toList = [.cell 4 25, .tmp 5] := rfl
@[go_sem] theorem ent_54 : entI prog 54 = true := by kernel_rfl
@[go_sem] theorem res_54 : f54.results.toList = [] := rfl
@[go_sem] theorem ent_55 : entI prog 55 = true := by kernel_rfl
@[go_sem] theorem res_55 : f55.results.toList = [.cell 6 25, .tmp 7] := rfl
@[go_sem] theorem ent_56 : entI prog 56 = true := by kernel_rfl
@[go_sem] theorem res_56 : f56.results.toList = [.cell 2 25, .tmp 3] := rfl
@[go_sem] theorem ent_57 : entI prog 57 = true := by kernel_rfl
@[go_sem] theorem res_57 : f57.results.toList = [.tmp 4] := rfl
@[go_sem] theorem ent_58 : entI prog 58 = true := by kernel_rfl
@[go_sem] theorem res_58 : f58.results.toList = [.tmp 6] := rfl
@[go_sem] theorem ent_59 : entI prog 59 = true := by kernel_rfl
@[go_sem] theorem res_59 : f59.results.toList = [.tmp 4] := rfl
@[go_sem] theorem ent_60 : entI prog 60 = true := by kernel_rfl
@[go_sem] theorem res_60 : f60.results.toList = [.tmp 2] := rfl
@[go_sem] theorem ent_61 : entI prog 61 = true := by kernel_rfl
@[go_sem] theorem res_61 : f61.results.toList = [.tmp 2] := rfl
@[go_sem] theorem ent_62 : entI prog 62 = true := by kernel_rfl
@[go_sem] theorem res_62 : f62.results.toList = [.tmp 6] := rfl
@[go_sem] theorem ent_63 : entI prog 63 = true := by kernel_rfl
@[go_sem] theorem res_63 : f63.results.toList = [.tmp 2] := rfl
@[go_sem] theorem ent_64 : entI prog 64 = true := by kernel_rfl
@[go_sem] theorem res_64 : f64.results.toList = [.tmp 2] := rfl
@[go_sem] theorem ent_65 : entI prog 65 = true := by kernel_rfl
@[go_sem] theorem res_65 : f65.results.toList = [.cell 2 93] := rfl
@[go_sem] theorem ent_66 : entI prog 66 = true := by kernel_rfl
@[go_sem] theorem res_66 : f66.results.toList = [.tmp 6, .tmp 7] := rfl
@[go_sem] theorem ent_67 : entI prog 67 = true := by kernel_rfl
@[go_sem] theorem res_67 : f67.results.toList = [.cell 4 25] := rfl
@[go_sem] theorem ent_68 : entI prog 68 = true := by kernel_rfl
@[go_sem] theorem res_68 : f68.results.toList = [.tmp 4] := rfl
@[go_sem] theorem ent_69 : entI prog 69 = true := by kernel_rfl
@[go_sem] theorem res_69 : f69.results.toList = [.tmp 2] := rfl
@[go_sem] theorem ent_70 : entI prog 70 = true := by kernel_rfl
@[go_sem] theorem res_70 : f70.results.toList = [.tmp 2] := rfl
@[go_sem] theorem ent_71 : entI prog 71 = true := by kernel_rfl
@[go_sem] theorem res_71 : f71.results.toList = [.cell 6 25] := rfl
@[go_sem] theorem ent_72 : entI prog 72 = true := by kernel_rfl
@[go_sem] theorem res_72 : f72.results.toList = [.tmp 6] := rfl
@[go_sem] theorem ent_73 : entI prog 73 = true := by kernel_rfl
@[go_sem] theorem res_73 : f73.results.toList = [.tmp 4] := rfl
@[go_sem] theorem ent_74 : entI prog 74 = true := by kernel_rfl
@[go_sem] theorem res_74 : f74.results.toList = [.tmp 2] := rfl
@[go_sem] theorem ent_75 : entI prog 75 = true := by kernel_rfl
@[go_sem] theorem res_75 : f75.results.toList = [.tmp 4] := rfl
@[go_sem] theorem ent_76 : entI prog 76 = true := by kernel_rfl
@[go_sem] theorem res_76 : f76.results.toList = [.cell 4 33] := rfl
@[go_sem] theorem ent_77 : entI prog 77 = true := by kernel_rfl
@[go_sem] theorem res_77 : f77.results.toList = [.cell 3 33, .tmp 4] := rfl
@[go_sem] theorem ent_78 : entI prog 78 = true := by kernel_rfl
@[go_sem] theorem res_78 : f78.results.toList = [.tmp 2] := rfl
@[go_sem] theorem ent_79 : entI prog 79 = true := by kernel_rfl
@[go_sem] theorem res_79 : f79.results.toList = [.tmp 2] := rfl
@[go_sem] theorem ent_80 : entI prog 80 = true := by kernel_rfl
@[go_sem] theorem res_80 : f80.results.toList = [.tmp 2] := rfl
@[go_sem] theorem ent_81 : entI prog 81 = true := by kernel_rfl
@[go_sem] theorem res_81 : f81.results.toList = [.tmp 2] := rfl
@[go_sem] theorem ent_82 : entI prog 82 = true := by kernel_rfl
@[go_sem] theorem res_82 : f82.results.toList = [.tmp 2] := rfl
@[go_sem] theorem ent_83 : entI prog 83 = true := by kernel_rfl
@[go_sem] theorem res_83 : f83.results.toList = [.tmp 2] := rfl
@[go_sem] theorem ent_84 : entI prog 84 = true := by kernel_rfl
@[go_sem] theorem res_84 : f84.results.toList = [.tmp 4] := rfl
@[go_sem] theorem ent_85 : entI prog 85 = true := by kernel_rfl
@[go_sem] theorem res_85 : f85.results.toList = [.tmp 2] := rfl
@[go_sem] theorem ent_86 : entI prog 86 = true := by kernel_rfl
@[go_sem] theorem res_86 : f86.results.toList = [.tmp 4] := rfl
@[go_sem] theorem ent_87 : entI prog 87 = true := by kernel_rfl
@[go_sem] theorem res_87 : f87.results.toList = [.tmp 2] := rfl
@[go_sem] theorem ent_88 : entI prog 88 = true := by kernel_rfl
@[go_sem] theorem res_88 : f88.results.toList = [.tmp 2] := rfl
@[go_sem] theorem ent_89 : entI prog 89 = true := by kernel_rfl
@[go_sem] theorem res_89 : f89.results.toList = [.tmp 2] := rfl
@[go_sem] theorem ent_90 : entI prog 90 = true := by kernel_rfl
@[go_sem] theorem res_90 : f90.results.toList = [.tmp 2] := rfl
@[go_sem] theorem ent_91 : entI prog 91 = true := by kernel_rfl
@[go_sem] theorem res_91 : f91.results.toList = [.cell 4 25] := rfl
@[go_sem] theorem ent_92 : entI prog 92 = true := by kernel_rfl
@[go_sem] theorem res_92 : f92.results.toList = [.tmp 2] := rfl
@[go_sem] theorem ent_93 : entI prog 93 = true := by kernel_rfl
@[go_sem] theorem res_93 : f93.results.toList = [.tmp 2] := rfl
@[go_sem] theorem ent_94 : entI prog 94 = true := by kernel_rfl
@[go_sem] theorem res_94 : f94.results.toList = [.cell 8 25] := rfl
@[go_sem] theorem ent_95 : entI prog 95 = true := by kernel_rfl
@[go_sem] theorem res_95 : f95.results.toList = [.tmp 8] := rfl
@[go_sem] theorem ent_96 : entI prog 96 = true := by kernel_rfl
@[go_sem] theorem res_96 : f96.results.toList = [.tmp 4] := rfl
@[go_sem] theorem ent_97 : entI prog 97 = true := by kernel_rfl
@[go_sem] theorem res_97 : f97.results.toList = [.tmp 4] := rfl
@[go_sem] theorem ent_98 : entI prog 98 = true := by kernel_rfl
@[go_sem] theorem res_98 : f98.results.toList = [.tmp 2] := rfl
@[go_sem] theorem ent_99 : entI prog 99 = true := by kernel_rfl
@[go_sem] theorem res_99 : f99.results.toList = [.tmp 6] := rfl
@[go_sem] theorem ent_100 : entI prog 100 = true := by kernel_rfl
@[go_sem] theorem res_100 : f100.results.toList = [.tmp 4] := rfl
@[go_sem] theorem ent_101 : entI prog 101 = true := by kernel_rfl
@[go_sem] theorem res_101 : f101.results.toList = [.tmp 2] := rfl
@[go_sem] theorem ent_102 : entI prog 102 = true := by kernel_rfl
@[go_sem] theorem res_102 : f102.results.toList = [.tmp 2] := rfl
@[go_sem] theorem ent_103 : entI prog 103 = true := by kernel_rfl
@[go_sem] theorem res_103 : f103.results.toList = [.tmp 2] := rfl
@[go_sem] theorem ent_104 : entI prog 104 = true := by kernel_rfl
@[go_sem] theorem res_104 : f104.results.toList = [] := rfl
@[go_sem] theorem ent_105 : entI prog 105 = true := by kernel_rfl
@[go_sem] theorem res_105 : f105.results.toList = [.tmp 6] := rfl
@[go_sem] theorem ent_106 : entI prog 106 = true := by kernel_rfl
@[go_sem] theorem res_106 : f106.results.toList = [.tmp 2] := rfl
@[go_sem] theorem ent_107 : entI prog 107 = true := by kernel_rfl
@[go_sem] theorem res_107 : f107.results.toList = [.tmp 6, .tmp 7] := rfl
@[go_sem] theorem ent_108 : entI prog 108 = true := by kernel_rfl
@[go_sem] theorem res_108 : f108.results.toList = [.tmp 2] := rfl
@[go_sem] theorem ent_109 : entI prog 109 = true := by kernel_rfl
@[go_sem] theorem res_109 : f109.results.toList = [] := rfl
@[go_sem] theorem ent_110 : entI prog 110 = true := by kernel_rfl
@[go_sem] theorem res_110 : f110.results.toList = [.cell 4 33, .tmp 5] := rfl
@[go_sem] theorem ent_111 : entI prog 111 = true := by kernel_rfl
@[go_sem] theorem res_111 : f111.results.toList = [.tmp 4, .tmp 5] := rfl
@[go_sem] theorem ent_112 : entI prog 112 = true := by kernel_rfl
@[go_sem] theorem res_112 : f112.results.toList = [.tmp 2] := rfl
@[go_sem] theorem ent_113 : entI prog 113 = true := by kernel_rfl
@[go_sem] theorem res_113 : f113.results.toList = [] := rfl
@[go_sem] theorem ent_114 : entI prog 114 = true := by kernel_rfl
@[go_sem] theorem res_114 : f114.results.toList = [] := rfl
@[go_sem] theorem ent_115 : entI prog 115 = true := by kernel_rfl
@[go_sem] theorem res_115 : f115.results.toList = [.cell 3 33, .tmp 4] := rfl
@[go_sem] theorem ent_116 : entI prog 116 = true := by kernel_rfl
@[go_sem] theorem res_116 : f116.results.toList = [.tmp 6] := rfl
@[go_sem] theorem ent_117 : entI prog 117 = true := by kernel_rfl
@[go_sem] theorem res_117 : f117.results.toList = [.tmp 2] := rfl
@[go_sem] theorem ent_118 : entI prog 118 = true := by kernel_rfl
@[go_sem] theorem res_118 : f118.results.toList = [.tmp 4] := rfl
@[go_sem] theorem ent_119 : entI prog 119 = true := by kernel_rfl
@[go_sem] theorem res_119 : f119.results.toList = [.tmp 4] := rfl
@[go_sem] theorem ent_120 : entI prog 120 = true := by kernel_rfl
@[go_sem] theorem res_120 : f120.results.toList = [] := rfl
@[go_sem] theorem ent_121 : entI prog 121 = true := by kernel_rfl
@[go_sem] theorem res_121 : f121.results.toList = [.tmp 4] := rfl
@[go_sem] theorem ent_122 : entI prog 122 = true := by kernel_rfl
@[go_sem] theorem res_122 : f122.results.toList = [.cell 2 33] := rfl
@[go_sem] theorem ent_123 : entI prog 123 = true := by kernel_rfl
@[go_sem] theorem res_123 : f123.results.toList = [] := rfl
@[go_sem] theorem ent_124 : entI prog 124 = true := by kernel_rfl
@[go_sem] theorem res_124 : f124.results.toList = [.tmp 4] := rfl
@[go_sem] theorem ent_125 : entI prog 125 = true := by kernel_rfl
@[go_sem] theorem res_125 : f125.results.toList = [.tmp 2] := rfl
@[go_sem] theorem ent_126 : entI prog 126 = true := by kernel_rfl
@[go_sem] theorem res_126 : f126.results.toList = [.tmp 4] := rfl
@[go_sem] theorem ent_127 : entI prog 127 = true := by kernel_rfl
@[go_sem] theorem res_127 : f127.results.toList = [.tmp 2] := rfl
@[go_sem] theorem ent_128 : entI prog 128 = true := by kernel_rfl
@[go_sem] theorem res_128 : f128.results.toList = [] := rfl
@[go_sem] theorem ent_129 : entI prog 129 = true := by kernel_rfl
@[go_sem] theorem res_129 : f129.results.toList = [.tmp 4] := rfl
@[go_sem] theorem ent_130 : entI prog 130 = true := by kernel_rfl
@[go_sem] theorem res_130 : f130.results.toList = [.tmp 4] := rfl
@[go_sem] theorem ent_131 : entI prog 131 = true := by kernel_rfl
@[go_sem] theorem res_131 : f131.results.toList = [.tmp 6] := rfl
@[go_sem] theorem ent_132 : entI prog 132 = true := by kernel_rfl
@[go_sem] theorem res_132 : f132.results.toList = [.tmp 4] := rfl
@[go_sem] theorem ent_133 : entI prog 133 = true := by kernel_rfl
@[go_sem] theorem res_133 : f133.results.toList = [.tmp 2] := rfl
@[go_sem] theorem ent_134 : entI prog 134 = true := by kernel_rfl
@[go_sem] theorem res_134 : f134.results.toList = [.tmp 2] := rfl
@[go_sem] theorem ent_135 : entI prog 135 = true := by kernel_rfl
@[go_sem] theorem res_135 : f135.results.toList = [.tmp 8] := rfl
@[go_sem] theorem ent_136 : entI prog 136 = true := by kernel_rfl
@[go_sem] theorem res_136 : f136.results.toList = [.tmp 2] := rfl
@[go_sem] theorem ent_137 : entI prog 137 = true := by kernel_rfl
@[go_sem] theorem res_137 : f137.results.toList = [.tmp 2] := rfl
@[go_sem] theorem ent_138 : entI prog 138 = true := by kernel_rfl
@[go_sem] theorem res_138 : f138.results.toList = [.tmp 4] := rfl
@[go_sem] theorem ent_139 : entI prog 139 = true := by kernel_rfl
@[go_sem] theorem res_139 : f139.results.toList = [.tmp 2] := rfl
@[go_sem] theorem ent_140 : entI prog 140 = true := by kernel_rfl
@[go_sem] theorem res_140 : f140.results.toList = [.tmp 2] := rfl
@[go_sem] theorem ent_141 : entI prog 141 = true := by kernel_rfl
@[go_sem] theorem res_141 : f141.results.toList = [.tmp 4] := rfl
@[go_sem] theorem ent_142 : entI prog 142 = true := by kernel_rfl
@[go_sem] theorem res_142 : f142.results.toList = [] := rfl
@[go_sem] theorem ent_143 : entI prog 143 = true := by kernel_rfl
@[go_sem] theorem res_143 : f143.results.toList = [.tmp 2] := rfl
@[go_sem] theorem ent_144 : entI prog 144 = true := by kernel_rfl
@[go_sem] theorem res_144 : f144.results.toList = [.tmp 4] := rfl
@[go_sem] theorem ent_145 : entI prog 145 = true := by kernel_rfl
@[go_sem] theorem res_145 : f145.results.toList = [] := rfl
@[go_sem] theorem ent_146 : entI prog 146 = true := by kernel_rfl
@[go_sem] theorem res_146 : f146.results.toList = [.tmp 2] := rfl
@[go_sem] theorem ent_147 : entI prog 147 = true := by kernel_rfl
@[go_sem] theorem res_147 : f147.results.toList = [] := rfl
@[go_sem] theorem ent_148 : entI prog 148 = true := by kernel_rfl
@[go_sem] theorem res_148 : f148.results.toList = [.tmp 4] := rfl
@[go_sem] theorem ent_149 : entI prog 149 = true := by kernel_rfl
@[go_sem] theorem res_149 : f149.results.toList = [.cell 2 33, .tmp 3] := rfl
@[go_sem] theorem ent_150 : entI prog 150 = true := by kernel_rfl
@[go_sem] theorem res_150 : f150.results.toList = [.tmp 2] := rfl
@[go_sem] theorem ent_151 : entI prog 151 = true := by kernel_rfl
@[go_sem] theorem res_151 : f151.results.toList = [.tmp 4] := rfl
@[go_sem] theorem ent_152 : entI prog 152 = true := by kernel_rfl
@[go_sem] theorem res_152 : f152.results.toList = [.tmp 2] := rfl
@[go_sem] theorem ent_153 : entI prog 153 = true := by kernel_rfl
@[go_sem] theorem res_153 : f153.results.toList = [.tmp 2] := rfl
@[go_sem] theorem ent_154 : entI prog 154 = true := by kernel_rfl
@[go_sem] theorem res_154 : f154.results.toList = [.tmp 4] := rfl
@[go_sem] theorem ent_155 : entI prog 155 = true := by kernel_rfl
@[go_sem] theorem res_155 : f155.results.toList = [.tmp 2] := rfl
@[go_sem] theorem ent_156 : entI prog 156 = true := by kernel_rfl
@[go_sem] theorem res_156 : f156.results.toList = [.tmp 4] := rfl
@[go_sem] theorem ent_157 : entI prog 157 = true := by kernel_rfl
@[go_sem] theorem res_157 : f157.results.toList = [.tmp 2] := rfl
@[go_sem] theorem ent_158 : entI prog 158 = true := by kernel_rfl
@[go_sem] theorem res_158 : f158.results.toList = [] := rfl
@[go_sem] theorem ent_159 : entI prog 159 = true := by kernel_rfl
@[go_sem] theorem res_159 : f159.results.toList = [] := rfl
@[go_sem] theorem ent_160 : entI prog 160 = true := by kernel_rfl
@[go_sem] theorem res_160 : f160.results.toList = [] := rfl
@[go_sem] theorem ent_161 : entI prog 161 = true := by kernel_rfl
@[go_sem] theorem res_161 : f161.results.toList = [.tmp 6, .tmp 7] := rfl
@[go_sem] theorem ent_162 : entI prog 162 = true := by kernel_rfl
@[go_sem] theorem res_162 : f162.results.toList = [] := rfl
@[go_sem] theorem ent_163 : entI prog 163 = true := by kernel_rfl
@[go_sem] theorem res_163 : f163.results.toList = [.tmp 6] := rfl
@[go_sem] theorem ent_164 : entI prog 164 = true := by kernel_rfl
@[go_sem] theorem res_164 : f164.results.toList = [.tmp 4] := rfl
@[go_sem] theorem ent_165 : entI prog 165 = true := by kernel_rfl
@[go_sem] theorem res_165 : f165.results.toList = [.tmp 8] := rfl
@[go_sem] theorem ent_166 : entI prog 166 = true := by kernel_rfl
@[go_sem] theorem res_166 : f166.results.toList = [.tmp 8, .tmp 9] := rfl
@[go_sem] theorem ent_167 : entI prog 167 = true := by kernel_rfl
@[go_sem] theorem res_167 : f167.results.toList = [.tmp 2] := rfl
@[go_sem] theorem ent_168 : entI prog 168 = true := by kernel_rfl
@[go_sem] theorem res_168 : f168.results.toList = [.tmp 2] := rfl
@[go_sem] theorem ent_169 : entI prog 169 = true := by kernel_rfl
@[go_sem] theorem res_169 : f169.results.toList = [.tmp 4] := rfl
@[go_sem] theorem ent_170 : entI prog 170 = true := by kernel_rfl
@[go_sem] theorem res_170 : f170.results.toList = [.tmp 2] := rfl
@[go_sem] theorem ent_171 : entI prog 171 = true := by kernel_rfl
@[go_sem] theorem res_171 : f171.results.toList = [.tmp 2] := rfl
@[go_sem] theorem ent_172 : entI prog 172 = true := by kernel_rfl
@[go_sem] theorem res_172 : f172.results.toList = [] := rfl
@[go_sem] theorem ent_173 : entI prog 173 = true := by kernel_rfl
@[go_sem] theorem res_173 : f173.results.toList = [.tmp 2] := rfl
@[go_sem] theorem ent_174 : entI prog 174 = true := by kernel_rfl
@[go_sem] theorem res_174 : f174.results.toList = [.tmp 2] := rfl
@[go_sem] theorem ent_175 : entI prog 175 = true := by kernel_rfl
@[go_sem] theorem res_175 : f175.results.toList = [.tmp 6] := rfl
@[go_sem] theorem ent_176 : entI prog 176 = true := by kernel_rfl
@[go_sem] theorem res_176 : f176.results.toList = [.tmp 10] := rfl
@[go_sem] theorem ent_177 : entI prog 177 = true := by kernel_rfl
@[go_sem] theorem res_177 : f177.results.toList = [.tmp 2] := rfl
@[go_sem] theorem ent_178 : entI prog 178 = true := by kernel_rfl
@[go_sem] theorem res_178 : f178.results.toList = [.tmp 2] := rfl
@[go_sem] theorem ent_179 : entI prog 179 = true := by kernel_rfl
@[go_sem] theorem res_179 : f179.results.toList = [.tmp 2] := rfl
@[go_sem] theorem ent_180 : entI prog 180 = true := by kernel_rfl
@[go_sem] theorem res_180 : f180.results.toList = [] := rfl
@[go_sem] theorem ent_181 : entI prog 181 = true := by kernel_rfl
@[go_sem] theorem res_181 : f181.results.toList = [.tmp 10, .tmp 11] := rfl
@[go_sem] theorem ent_182 : entI prog 182 = true := by kernel_rfl
@[go_sem] theorem res_182 : f182.results.toList = [.tmp 8, .tmp 9] := rfl
@[go_sem] theorem ent_183 : entI prog 183 = true := by kernel_rfl
@[go_sem] theorem res_183 : f183.results.toList = [.tmp 2] := rfl
@[go_sem] theorem ent_184 : entI prog 184 = true := by kernel_rfl
@[go_sem] theorem res_184 : f184.results.toList = [.tmp 2] := rfl
@[go_sem] theorem ent_185 : entI prog 185 = true := by kernel_rfl
@[go_sem] theorem res_185 : f185.results.toList = [.tmp 2] := rfl
@[go_sem] theorem ent_186 : entI prog 186 = true := by kernel_rfl
@[go_sem] theorem res_186 : f186.results.toList = [.tmp 2] := rfl
@[go_sem] theorem ent_187 : entI prog 187 = true := by kernel_rfl
@[go_sem] theorem res_187 : f187.results.toList = [.tmp 2] := rfl
@[go_sem] theorem ent_188 : entI prog 188 = true := by kernel_rfl
@[go_sem] theorem res_188 : f188.results.toList = [.tmp 2] := rfl

end Go.Proofs.Tryz
