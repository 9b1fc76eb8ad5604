/- Tables of the seat, printed by tabs.py: what types and functions are, as rules for simp. -/
import Derived.Test.YtckafgnkmnichaaGreatDoorJI
import Derived.Test.YtckafgnkmnichaaGreatDoorProg
import Derived.KernelRfl
set_option linter.all false
namespace Go.Proofs.Tryz
open Go Go.Iv

@[go_sem] theorem ty_3:tyI prog 3 = some (false,1):=by kernel_rfl
@[go_sem] theorem int_3:intK prog 3 = some .i64:=by kernel_rfl
@[go_sem] theorem zero_3:zeroI prog 3 = some (.raw (.int .i64 0)):=by kernel_rfl
@[go_sem] theorem ty_4:tyI prog 4 = some (false,1):=by kernel_rfl
@[go_sem] theorem bool_4:isBoolT prog 4 = true:=by kernel_rfl
@[go_sem] theorem ty_5:tyI prog 5 = some (false,1):=by kernel_rfl
@[go_sem] theorem int_5:intK prog 5 = some .u8:=by kernel_rfl
@[go_sem] theorem ty_9:tyI prog 9 = some (false,1):=by kernel_rfl
@[go_sem] theorem len_9:lenI prog 9 = some .str:=by kernel_rfl
@[go_sem] theorem str_9:strT prog 9 = true:=by kernel_rfl
@[go_sem] theorem ty_22:tyI prog 22 = some (false,1):=by kernel_rfl
@[go_sem] theorem len_22:lenI prog 22 = some .sl:=by kernel_rfl
@[go_sem] theorem sl_22:slI prog 22 = some (27,true,4,72):=by kernel_rfl
@[go_sem] theorem ty_24:tyI prog 24 = some (true,2):=by kernel_rfl
@[go_sem] theorem fld_24_0:fldI prog 24 0 = some (0,false,1):=by kernel_rfl
@[go_sem] theorem fld_24_1:fldI prog 24 1 = some (1,false,1):=by kernel_rfl
@[go_sem] theorem flds_24:fieldsOk prog 24 = true:=by kernel_rfl
@[go_sem] theorem zero_24:zeroI prog 24 = some (.agg [.sl ⟨true,.nil,0⟩ [],.sl ⟨true,.nil,0⟩ []]):=by kernel_rfl
@[go_sem] theorem ty_25:tyI prog 25 = some (false,1):=by kernel_rfl
@[go_sem] theorem len_25:lenI prog 25 = some .sl:=by kernel_rfl
@[go_sem] theorem sl_25:slI prog 25 = some (29,true,3,48):=by kernel_rfl
@[go_sem] theorem ty_27:tyI prog 27 = some (true,4):=by kernel_rfl
@[go_sem] theorem fld_27_0:fldI prog 27 0 = some (0,false,1):=by kernel_rfl
@[go_sem] theorem fld_27_1:fldI prog 27 1 = some (1,false,1):=by kernel_rfl
@[go_sem] theorem fld_27_2:fldI prog 27 2 = some (2,false,1):=by kernel_rfl
@[go_sem] theorem fld_27_3:fldI prog 27 3 = some (3,false,1):=by kernel_rfl
@[go_sem] theorem flds_27:fieldsOk prog 27 = true:=by kernel_rfl
@[go_sem] theorem zero_27:zeroI prog 27 = some (.agg [.raw (.int .u8 0),.raw (.string ⟨#[]⟩),.sl ⟨true,.nil,0⟩ [],.sl ⟨true,.nil,0⟩ []]):=by kernel_rfl
@[go_sem] theorem ty_29:tyI prog 29 = some (true,3):=by kernel_rfl
@[go_sem] theorem fld_29_0:fldI prog 29 0 = some (0,false,1):=by kernel_rfl
@[go_sem] theorem fld_29_1:fldI prog 29 1 = some (1,false,1):=by kernel_rfl
@[go_sem] theorem fld_29_2:fldI prog 29 2 = some (2,false,1):=by kernel_rfl
@[go_sem] theorem flds_29:fieldsOk prog 29 = true:=by kernel_rfl
@[go_sem] theorem zero_29:zeroI prog 29 = some (.agg [.raw (.bool false),.raw (.string ⟨#[]⟩),.sl ⟨true,.nil,0⟩ []]):=by kernel_rfl
@[go_sem] theorem ty_30:tyI prog 30 = some (false,1):=by kernel_rfl
@[go_sem] theorem len_30:lenI prog 30 = some .sl:=by kernel_rfl
@[go_sem] theorem sl_30:slI prog 30 = some (32,true,12,216):=by kernel_rfl
@[go_sem] theorem ty_32:tyI prog 32 = some (true,12):=by kernel_rfl
@[go_sem] theorem fld_32_0:fldI prog 32 0 = some (0,false,1):=by kernel_rfl
@[go_sem] theorem fld_32_1:fldI prog 32 1 = some (1,true,2):=by kernel_rfl
@[go_sem] theorem fld_32_2:fldI prog 32 2 = some (3,true,4):=by kernel_rfl
@[go_sem] theorem fld_32_3:fldI prog 32 3 = some (7,true,3):=by kernel_rfl
@[go_sem] theorem fld_32_4:fldI prog 32 4 = some (10,false,1):=by kernel_rfl
@[go_sem] theorem fld_32_5:fldI prog 32 5 = some (11,false,1):=by kernel_rfl
@[go_sem] theorem flds_32:fieldsOk prog 32 = true:=by kernel_rfl
@[go_sem] theorem zero_32:zeroI prog 32 = some (.agg [.raw (.int .u8 0),.sl ⟨true,.nil,0⟩ [],.sl ⟨true,.nil,0⟩ [],.raw (.int .u8 0),.raw (.string ⟨#[]⟩),.sl ⟨true,.nil,0⟩ [],.sl ⟨true,.nil,0⟩ [],.raw (.bool false),.raw (.string ⟨#[]⟩),.sl ⟨true,.nil,0⟩ [],.raw (.string ⟨#[]⟩),.sl ⟨true,.nil,0⟩ []]):=by kernel_rfl
@[go_sem] theorem ty_36:tyI prog 36 = some (false,1):=by kernel_rfl
@[go_sem] theorem len_36:lenI prog 36 = some .sl:=by kernel_rfl
@[go_sem] theorem sl_36:slI prog 36 = some (3,false,1,8):=by kernel_rfl
@[go_sem] theorem zero_36:zeroI prog 36 = some (.sl ⟨true,.nil,0⟩ []):=by kernel_rfl
@[go_sem] theorem ty_37:tyI prog 37 = some (false,1):=by kernel_rfl
@[go_sem] theorem zero_37:zeroI prog 37 = some (.raw (.int .i64 0)):=by kernel_rfl
@[go_sem] theorem len_47:lenI prog 47 = some .sl:=by kernel_rfl
@[go_sem] theorem sl_47:slI prog 47 = some (9,false,1,16):=by kernel_rfl
@[go_sem] theorem len_59:lenI prog 59 = some .sl:=by kernel_rfl
@[go_sem] theorem sl_59:slI prog 59 = some (24,true,2,48):=by kernel_rfl
@[go_sem] theorem ty_76:tyI prog 76 = some (false,1):=by kernel_rfl
@[go_sem] theorem len_76:lenI prog 76 = some .sl:=by kernel_rfl
@[go_sem] theorem sl_76:slI prog 76 = some (78,true,12,216):=by kernel_rfl
@[go_sem] theorem ty_78:tyI prog 78 = some (true,12):=by kernel_rfl
@[go_sem] theorem fld_78_0:fldI prog 78 0 = some (0,false,1):=by kernel_rfl
@[go_sem] theorem fld_78_1:fldI prog 78 1 = some (1,true,2):=by kernel_rfl
@[go_sem] theorem fld_78_2:fldI prog 78 2 = some (3,true,4):=by kernel_rfl
@[go_sem] theorem fld_78_3:fldI prog 78 3 = some (7,true,3):=by kernel_rfl
@[go_sem] theorem fld_78_4:fldI prog 78 4 = some (10,false,1):=by kernel_rfl
@[go_sem] theorem fld_78_5:fldI prog 78 5 = some (11,false,1):=by kernel_rfl
@[go_sem] theorem flds_78:fieldsOk prog 78 = true:=by kernel_rfl
@[go_sem] theorem zero_78:zeroI prog 78 = some (.agg [.raw (.int .u8 0),.sl ⟨true,.nil,0⟩ [],.sl ⟨true,.nil,0⟩ [],.raw (.int .u8 0),.raw (.string ⟨#[]⟩),.sl ⟨true,.nil,0⟩ [],.sl ⟨true,.nil,0⟩ [],.raw (.bool false),.raw (.string ⟨#[]⟩),.sl ⟨true,.nil,0⟩ [],.raw (.string ⟨#[]⟩),.sl ⟨true,.nil,0⟩ []]):=by kernel_rfl
@[go_sem] theorem ty_85:tyI prog 85 = some (false,1):=by kernel_rfl
@[go_sem] theorem ty_89:tyI prog 89 = some (false,1):=by kernel_rfl
@[go_sem] theorem ty_103:tyI prog 103 = some (false,1):=by kernel_rfl
@[go_sem] theorem map_103:mapI prog 103 = some (.str,.raw (.bool false)):=by kernel_rfl
@[go_sem] theorem zero_103:zeroI prog 103 = some (.raw (.map none)):=by kernel_rfl
@[go_sem] theorem ty_119:tyI prog 119 = some (false,1):=by kernel_rfl
@[go_sem] theorem ty_121:tyI prog 121 = some (true,5):=by kernel_rfl
@[go_sem] theorem fld_121_0:fldI prog 121 0 = some (0,false,1):=by kernel_rfl
@[go_sem] theorem fld_121_1:fldI prog 121 1 = some (1,false,1):=by kernel_rfl
@[go_sem] theorem fld_121_2:fldI prog 121 2 = some (2,false,1):=by kernel_rfl
@[go_sem] theorem fld_121_3:fldI prog 121 3 = some (3,false,1):=by kernel_rfl
@[go_sem] theorem fld_121_4:fldI prog 121 4 = some (4,false,1):=by kernel_rfl
@[go_sem] theorem flds_121:fieldsOk prog 121 = true:=by kernel_rfl
@[go_sem] theorem zero_121:zeroI prog 121 = some (.agg [.raw (.bool false),.raw (.bool false),.raw (.int .u8 0),.raw (.int .u8 0),.raw .nilFunc]):=by kernel_rfl
@[go_sem] theorem map_123:mapI prog 123 = some (.int .u8,.agg [.raw (.bool false),.raw (.bool false),.raw (.int .u8 0),.raw (.int .u8 0),.raw .nilFunc]):=by kernel_rfl
@[go_sem] theorem ty_129:tyI prog 129 = some (false,1):=by kernel_rfl
@[go_sem] theorem ty_140:tyI prog 140 = some (false,1):=by kernel_rfl
@[go_sem] theorem ty_141:tyI prog 141 = some (false,1):=by kernel_rfl
@[go_sem] theorem zero_141:zeroI prog 141 = some (.raw .nilFunc):=by kernel_rfl
@[go_sem] theorem ty_145:tyI prog 145 = some (false,1):=by kernel_rfl
@[go_sem] theorem map_145:mapI prog 145 = some (.str,.raw (.int .i64 0)):=by kernel_rfl
@[go_sem] theorem ty_147:tyI prog 147 = some (true,3):=by kernel_rfl
@[go_sem] theorem fld_147_0:fldI prog 147 0 = some (0,false,1):=by kernel_rfl
@[go_sem] theorem fld_147_1:fldI prog 147 1 = some (1,false,1):=by kernel_rfl
@[go_sem] theorem fld_147_2:fldI prog 147 2 = some (2,false,1):=by kernel_rfl
@[go_sem] theorem flds_147:fieldsOk prog 147 = true:=by kernel_rfl
@[go_sem] theorem zero_147:zeroI prog 147 = some (.agg [.raw (.bool false),.raw (.int .i64 0),.raw (.int .i64 0)]):=by kernel_rfl
@[go_sem] theorem ty_170:tyI prog 170 = some (true,4):=by kernel_rfl
@[go_sem] theorem fld_170_0:fldI prog 170 0 = some (0,false,1):=by kernel_rfl
@[go_sem] theorem fld_170_1:fldI prog 170 1 = some (1,true,3):=by kernel_rfl
@[go_sem] theorem flds_170:fieldsOk prog 170 = true:=by kernel_rfl
@[go_sem] theorem zero_170:zeroI prog 170 = some (.agg [.raw (.string ⟨#[]⟩),.raw (.bool false),.raw (.string ⟨#[]⟩),.sl ⟨true,.nil,0⟩ []]):=by kernel_rfl
@[go_sem] theorem len_171:lenI prog 171 = some .sl:=by kernel_rfl
@[go_sem] theorem sl_171:slI prog 171 = some (170,true,4,64):=by kernel_rfl
@[go_sem] theorem len_182:lenI prog 182 = some .sl:=by kernel_rfl
@[go_sem] theorem sl_182:slI prog 182 = some (22,false,1,24):=by kernel_rfl
@[go_sem] theorem ty_193:tyI prog 193 = some (true,5):=by kernel_rfl
@[go_sem] theorem fld_193_0:fldI prog 193 0 = some (0,false,1):=by kernel_rfl
@[go_sem] theorem fld_193_2:fldI prog 193 2 = some (2,false,1):=by kernel_rfl
@[go_sem] theorem fld_193_3:fldI prog 193 3 = some (3,false,1):=by kernel_rfl
@[go_sem] theorem fld_193_4:fldI prog 193 4 = some (4,false,1):=by kernel_rfl
@[go_sem] theorem zero_193:zeroI prog 193 = some (.agg [.raw (.bool false),.raw (.bool false),.raw (.int .u8 0),.raw (.int .i64 0),.raw (.int .i64 0)]):=by kernel_rfl
@[go_sem] theorem len_194:lenI prog 194 = some (.arr 17):=by kernel_rfl
@[go_sem] theorem arr_194:arrI prog 194 = some (17,true,5):=by kernel_rfl
@[go_sem] theorem ty_217:tyI prog 217 = some (true,4):=by kernel_rfl
@[go_sem] theorem fld_217_0:fldI prog 217 0 = some (0,false,1):=by kernel_rfl
@[go_sem] theorem fld_217_1:fldI prog 217 1 = some (1,true,3):=by kernel_rfl
@[go_sem] theorem flds_217:fieldsOk prog 217 = true:=by kernel_rfl
@[go_sem] theorem zero_217:zeroI prog 217 = some (.agg [.raw (.string ⟨#[]⟩),.raw (.bool false),.raw (.string ⟨#[]⟩),.sl ⟨true,.nil,0⟩ []]):=by kernel_rfl
@[go_sem] theorem len_218:lenI prog 218 = some .sl:=by kernel_rfl
@[go_sem] theorem sl_218:slI prog 218 = some (217,true,4,64):=by kernel_rfl
@[go_sem] theorem sl_228:slI prog 228 = some (5,false,1,1):=by kernel_rfl
@[go_sem] theorem bsl_228:byteSl prog 228 = true:=by kernel_rfl
@[go_sem] theorem ty_230:tyI prog 230 = some (false,1):=by kernel_rfl
@[go_sem] theorem len_230:lenI prog 230 = some .sl:=by kernel_rfl
@[go_sem] theorem sl_230:slI prog 230 = some (233,true,2,32):=by kernel_rfl
@[go_sem] theorem ty_233:tyI prog 233 = some (true,2):=by kernel_rfl
@[go_sem] theorem fld_233_0:fldI prog 233 0 = some (0,false,1):=by kernel_rfl
@[go_sem] theorem fld_233_1:fldI prog 233 1 = some (1,false,1):=by kernel_rfl
@[go_sem] theorem flds_233:fieldsOk prog 233 = true:=by kernel_rfl
@[go_sem] theorem zero_233:zeroI prog 233 = some (.agg [.raw (.string ⟨#[]⟩),.raw (.string ⟨#[]⟩)]):=by kernel_rfl
@[go_sem] theorem len_262:lenI prog 262 = some .sl:=by kernel_rfl
@[go_sem] theorem sl_262:slI prog 262 = some (264,true,7,88):=by kernel_rfl
@[go_sem] theorem ty_264:tyI prog 264 = some (true,7):=by kernel_rfl
@[go_sem] theorem fld_264_0:fldI prog 264 0 = some (0,true,4):=by kernel_rfl
@[go_sem] theorem fld_264_1:fldI prog 264 1 = some (4,false,1):=by kernel_rfl
@[go_sem] theorem fld_264_2:fldI prog 264 2 = some (5,false,1):=by kernel_rfl
@[go_sem] theorem fld_264_3:fldI prog 264 3 = some (6,false,1):=by kernel_rfl
@[go_sem] theorem flds_264:fieldsOk prog 264 = true:=by kernel_rfl
@[go_sem] theorem zero_264:zeroI prog 264 = some (.agg [.raw (.string ⟨#[]⟩),.raw (.bool false),.raw (.string ⟨#[]⟩),.sl ⟨true,.nil,0⟩ [],.raw (.map none),.raw (.int .i64 0),.raw (.int .i64 0)]):=by kernel_rfl
@[go_sem] theorem len_289:lenI prog 289 = some .sl:=by kernel_rfl
@[go_sem] theorem sl_289:slI prog 289 = some (103,false,1,8):=by kernel_rfl
@[go_sem] theorem res_3:f3.results.toList = [.tmp 4]:=rfl
@[go_sem] theorem res_5:f5.results.toList = [.tmp 8]:=rfl
@[go_sem] theorem res_6:f6.results.toList = [.tmp 8]:=rfl
@[go_sem] theorem res_11:f11.results.toList = [.tmp 6]:=rfl
@[go_sem] theorem ent_14:entI prog 14 = true:=by kernel_rfl
@[go_sem] theorem res_14:f14.results.toList = [.tmp 2]:=rfl
@[go_sem] theorem ent_15:entI prog 15 = true:=by kernel_rfl
@[go_sem] theorem res_15:f15.results.toList = [.tmp 4]:=rfl
@[go_sem] theorem ent_16:entI prog 16 = true:=by kernel_rfl
@[go_sem] theorem res_16:f16.results.toList = [.tmp 0]:=rfl
@[go_sem] theorem ent_17:entI prog 17 = true:=by kernel_rfl
@[go_sem] theorem res_17:f17.results.toList = [.cell 4 36,.cell 5 37]:=rfl
@[go_sem] theorem ent_18:entI prog 18 = true:=by kernel_rfl
@[go_sem] theorem res_18:f18.results.toList = [.tmp 4]:=rfl
@[go_sem] theorem ent_19:entI prog 19 = true:=by kernel_rfl
@[go_sem] theorem res_19:f19.results.toList = [.tmp 2]:=rfl
@[go_sem] theorem ent_20:entI prog 20 = true:=by kernel_rfl
@[go_sem] theorem res_20:f20.results.toList = [.tmp 2]:=rfl
@[go_sem] theorem ent_21:entI prog 21 = true:=by kernel_rfl
@[go_sem] theorem res_21:f21.results.toList = [.tmp 2]:=rfl
@[go_sem] theorem ent_22:entI prog 22 = true:=by kernel_rfl
@[go_sem] theorem res_22:f22.results.toList = [.tmp 4]:=rfl
@[go_sem] theorem ent_23:entI prog 23 = true:=by kernel_rfl
@[go_sem] theorem res_23:f23.results.toList = [.tmp 4]:=rfl
@[go_sem] theorem ent_24:entI prog 24 = true:=by kernel_rfl
@[go_sem] theorem res_24:f24.results.toList = [.tmp 2]:=rfl
@[go_sem] theorem ent_25:entI prog 25 = true:=by kernel_rfl
@[go_sem] theorem res_25:f25.results.toList = [.cell 2 24]:=rfl
@[go_sem] theorem ent_26:entI prog 26 = true:=by kernel_rfl
@[go_sem] theorem res_26:f26.results.toList = [.cell 4 24]:=rfl
@[go_sem] theorem ent_27:entI prog 27 = true:=by kernel_rfl
@[go_sem] theorem res_27:f27.results.toList = [.tmp 2]:=rfl
@[go_sem] theorem ent_28:entI prog 28 = true:=by kernel_rfl
@[go_sem] theorem res_28:f28.results.toList = [.cell 6 32,.tmp 7]:=rfl
@[go_sem] theorem ent_29:entI prog 29 = true:=by kernel_rfl
@[go_sem] theorem res_29:f29.results.toList = [.tmp 2]:=rfl
@[go_sem] theorem ent_31:entI prog 31 = true:=by kernel_rfl
@[go_sem] theorem res_31:f31.results.toList = [.tmp 2]:=rfl
@[go_sem] theorem ent_33:entI prog 33 = true:=by kernel_rfl
@[go_sem] theorem res_33:f33.results.toList = [.cell 2 24,.tmp 3]:=rfl
@[go_sem] theorem ent_35:entI prog 35 = true:=by kernel_rfl
@[go_sem] theorem res_35:f35.results.toList = [.tmp 4]:=rfl
@[go_sem] theorem ent_37:entI prog 37 = true:=by kernel_rfl
@[go_sem] theorem res_37:f37.results.toList = [.tmp 12,.tmp 13]:=rfl
@[go_sem] theorem ent_38:entI prog 38 = true:=by kernel_rfl
@[go_sem] theorem res_38:f38.results.toList = [.tmp 10,.tmp 11]:=rfl
@[go_sem] theorem ent_40:entI prog 40 = true:=by kernel_rfl
@[go_sem] theorem res_40:f40.results.toList = [.tmp 4]:=rfl
@[go_sem] theorem ent_41:entI prog 41 = true:=by kernel_rfl
@[go_sem] theorem res_41:f41.results.toList = [.cell 2 27]:=rfl
@[go_sem] theorem ent_42:entI prog 42 = true:=by kernel_rfl
@[go_sem] theorem res_42:f42.results.toList = [.cell 4 27]:=rfl
@[go_sem] theorem ent_43:entI prog 43 = true:=by kernel_rfl
@[go_sem] theorem res_43:f43.results.toList = [.tmp 4]:=rfl
@[go_sem] theorem ent_46:entI prog 46 = true:=by kernel_rfl
@[go_sem] theorem res_46:f46.results.toList = [.cell 6 27]:=rfl
@[go_sem] theorem ent_47:entI prog 47 = true:=by kernel_rfl
@[go_sem] theorem res_47:f47.results.toList = [.tmp 10,.tmp 11]:=rfl
@[go_sem] theorem ent_50:entI prog 50 = true:=by kernel_rfl
@[go_sem] theorem res_50:f50.results.toList = [.tmp 4]:=rfl
@[go_sem] theorem ent_51:entI prog 51 = true:=by kernel_rfl
@[go_sem] theorem res_51:f51.results.toList = [.cell 2 78]:=rfl
@[go_sem] theorem ent_52:entI prog 52 = true:=by kernel_rfl
@[go_sem] theorem res_52:f52.results.toList = [.cell 2 32]:=rfl
@[go_sem] theorem ent_53:entI prog 53 = true:=by kernel_rfl
@[go_sem] theorem res_53:f53.results.toList = [.tmp 4,.tmp 5]:=rfl
@[go_sem] theorem ent_54:entI prog 54 = true:=by kernel_rfl
@[go_sem] theorem res_54:f54.results.toList = [.tmp 2]:=rfl
@[go_sem] theorem ent_55:entI prog 55 = true:=by kernel_rfl
@[go_sem] theorem res_55:f55.results.toList = [.tmp 2]:=rfl
@[go_sem] theorem ent_56:entI prog 56 = true:=by kernel_rfl
@[go_sem] theorem res_56:f56.results.toList = [.tmp 2]:=rfl
@[go_sem] theorem ent_57:entI prog 57 = true:=by kernel_rfl
@[go_sem] theorem res_57:f57.results.toList = [.tmp 4]:=rfl
@[go_sem] theorem ent_58:entI prog 58 = true:=by kernel_rfl
@[go_sem] theorem res_58:f58.results.toList = [.cell 2 29]:=rfl
@[go_sem] theorem ent_59:entI prog 59 = true:=by kernel_rfl
@[go_sem] theorem res_59:f59.results.toList = [.tmp 2]:=rfl
@[go_sem] theorem ent_60:entI prog 60 = true:=by kernel_rfl
@[go_sem] theorem res_60:f60.results.toList = [.tmp 2]:=rfl
@[go_sem] theorem ent_61:entI prog 61 = true:=by kernel_rfl
@[go_sem] theorem res_61:f61.results.toList = [.tmp 4]:=rfl
@[go_sem] theorem ent_62:entI prog 62 = true:=by kernel_rfl
@[go_sem] theorem res_62:f62.results.toList = [.tmp 2]:=rfl
@[go_sem] theorem ent_63:entI prog 63 = true:=by kernel_rfl
@[go_sem] theorem res_63:f63.results.toList = [.tmp 4]:=rfl
@[go_sem] theorem ent_64:entI prog 64 = true:=by kernel_rfl
@[go_sem] theorem res_64:f64.results.toList = [.tmp 4]:=rfl
@[go_sem] theorem ent_65:entI prog 65 = true:=by kernel_rfl
@[go_sem] theorem res_65:f65.results.toList = [.tmp 2]:=rfl
@[go_sem] theorem ent_66:entI prog 66 = true:=by kernel_rfl
@[go_sem] theorem res_66:f66.results.toList = [.tmp 4]:=rfl
@[go_sem] theorem ent_67:entI prog 67 = true:=by kernel_rfl
@[go_sem] theorem res_67:f67.results.toList = [.tmp 2]:=rfl
@[go_sem] theorem ent_68:entI prog 68 = true:=by kernel_rfl
@[go_sem] theorem res_68:f68.results.toList = [.tmp 4]:=rfl
@[go_sem] theorem ent_69:entI prog 69 = true:=by kernel_rfl
@[go_sem] theorem res_69:f69.results.toList = [.tmp 4]:=rfl
@[go_sem] theorem ent_70:entI prog 70 = true:=by kernel_rfl
@[go_sem] theorem res_70:f70.results.toList = [.tmp 4]:=rfl
@[go_sem] theorem ent_71:entI prog 71 = true:=by kernel_rfl
@[go_sem] theorem res_71:f71.results.toList = [.tmp 4]:=rfl
@[go_sem] theorem ent_72:entI prog 72 = true:=by kernel_rfl
@[go_sem] theorem res_72:f72.results.toList = [.tmp 2]:=rfl
@[go_sem] theorem ent_73:entI prog 73 = true:=by kernel_rfl
@[go_sem] theorem ent_74:entI prog 74 = true:=by kernel_rfl
@[go_sem] theorem ent_75:entI prog 75 = true:=by kernel_rfl
@[go_sem] theorem res_75:f75.results.toList = [.tmp 2]:=rfl
@[go_sem] theorem ent_76:entI prog 76 = true:=by kernel_rfl
@[go_sem] theorem res_76:f76.results.toList = [.tmp 2]:=rfl
@[go_sem] theorem ent_77:entI prog 77 = true:=by kernel_rfl
@[go_sem] theorem res_77:f77.results.toList = [.cell 6 27]:=rfl
@[go_sem] theorem ent_78:entI prog 78 = true:=by kernel_rfl
@[go_sem] theorem res_78:f78.results.toList = [.tmp 2]:=rfl
@[go_sem] theorem ent_82:entI prog 82 = true:=by kernel_rfl
@[go_sem] theorem res_82:f82.results.toList = [.tmp 4]:=rfl
@[go_sem] theorem ent_83:entI prog 83 = true:=by kernel_rfl
@[go_sem] theorem res_83:f83.results.toList = [.tmp 4]:=rfl
@[go_sem] theorem ent_87:entI prog 87 = true:=by kernel_rfl
@[go_sem] theorem res_87:f87.results.toList = [.tmp 2,.tmp 3]:=rfl
@[go_sem] theorem ent_88:entI prog 88 = true:=by kernel_rfl
@[go_sem] theorem res_88:f88.results.toList = [.tmp 4]:=rfl
@[go_sem] theorem ent_96:entI prog 96 = true:=by kernel_rfl
@[go_sem] theorem res_96:f96.results.toList = [.tmp 12,.tmp 13]:=rfl
@[go_sem] theorem ent_97:entI prog 97 = true:=by kernel_rfl
@[go_sem] theorem res_97:f97.results.toList = [.tmp 2]:=rfl
@[go_sem] theorem ent_98:entI prog 98 = true:=by kernel_rfl
@[go_sem] theorem res_98:f98.results.toList = [.tmp 2]:=rfl
@[go_sem] theorem ent_99:entI prog 99 = true:=by kernel_rfl
@[go_sem] theorem res_99:f99.results.toList = [.tmp 10,.tmp 11]:=rfl
@[go_sem] theorem ent_100:entI prog 100 = true:=by kernel_rfl
@[go_sem] theorem res_100:f100.results.toList = [.tmp 4]:=rfl
@[go_sem] theorem ent_101:entI prog 101 = true:=by kernel_rfl
@[go_sem] theorem res_101:f101.results.toList = [.tmp 4]:=rfl
@[go_sem] theorem ent_102:entI prog 102 = true:=by kernel_rfl
@[go_sem] theorem res_102:f102.results.toList = [.tmp 3]:=rfl
@[go_sem] theorem ent_103:entI prog 103 = true:=by kernel_rfl
@[go_sem] theorem res_103:f103.results.toList = [.tmp 4,.tmp 5,.tmp 6,.tmp 7]:=rfl
@[go_sem] theorem ent_104:entI prog 104 = true:=by kernel_rfl
@[go_sem] theorem res_104:f104.results.toList = [.tmp 4]:=rfl
@[go_sem] theorem ent_105:entI prog 105 = true:=by kernel_rfl
@[go_sem] theorem res_105:f105.results.toList = [.cell 4 24]:=rfl
@[go_sem] theorem ent_106:entI prog 106 = true:=by kernel_rfl
@[go_sem] theorem res_106:f106.results.toList = [.tmp 2]:=rfl
@[go_sem] theorem ent_107:entI prog 107 = true:=by kernel_rfl
@[go_sem] theorem res_107:f107.results.toList = [.tmp 2]:=rfl
@[go_sem] theorem ent_108:entI prog 108 = true:=by kernel_rfl
@[go_sem] theorem res_108:f108.results.toList = [.cell 6 27,.tmp 7]:=rfl
@[go_sem] theorem ent_113:entI prog 113 = true:=by kernel_rfl
@[go_sem] theorem res_113:f113.results.toList = [.cell 2 27]:=rfl
@[go_sem] theorem ent_114:entI prog 114 = true:=by kernel_rfl
@[go_sem] theorem res_114:f114.results.toList = [.cell 2 29]:=rfl
@[go_sem] theorem ent_115:entI prog 115 = true:=by kernel_rfl
@[go_sem] theorem res_115:f115.results.toList = [.tmp 6,.tmp 7]:=rfl
@[go_sem] theorem ent_116:entI prog 116 = true:=by kernel_rfl
@[go_sem] theorem res_116:f116.results.toList = [.tmp 4]:=rfl
@[go_sem] theorem ent_117:entI prog 117 = true:=by kernel_rfl
@[go_sem] theorem res_117:f117.results.toList = [.tmp 4]:=rfl
@[go_sem] theorem res_118:f118.results.toList = []:=rfl
@[go_sem] theorem ent_119:entI prog 119 = true:=by kernel_rfl
@[go_sem] theorem res_119:f119.results.toList = [.tmp 5]:=rfl
@[go_sem] theorem ent_120:entI prog 120 = true:=by kernel_rfl
@[go_sem] theorem res_120:f120.results.toList = [.tmp 2]:=rfl
@[go_sem] theorem ent_121:entI prog 121 = true:=by kernel_rfl
@[go_sem] theorem res_121:f121.results.toList = [.tmp 4]:=rfl
@[go_sem] theorem ent_122:entI prog 122 = true:=by kernel_rfl
@[go_sem] theorem res_122:f122.results.toList = [.tmp 4]:=rfl
@[go_sem] theorem ent_126:entI prog 126 = true:=by kernel_rfl
@[go_sem] theorem res_126:f126.results.toList = []:=rfl
@[go_sem] theorem ent_127:entI prog 127 = true:=by kernel_rfl
@[go_sem] theorem res_127:f127.results.toList = [.tmp 6]:=rfl
@[go_sem] theorem ent_128:entI prog 128 = true:=by kernel_rfl
@[go_sem] theorem res_128:f128.results.toList = [.tmp 6]:=rfl
@[go_sem] theorem ent_131:entI prog 131 = true:=by kernel_rfl
@[go_sem] theorem res_131:f131.results.toList = [.tmp 6]:=rfl
@[go_sem] theorem ent_132:entI prog 132 = true:=by kernel_rfl
@[go_sem] theorem res_132:f132.results.toList = [.tmp 4]:=rfl
@[go_sem] theorem ent_135:entI prog 135 = true:=by kernel_rfl
@[go_sem] theorem res_135:f135.results.toList = [.cell 2 27,.tmp 3]:=rfl
@[go_sem] theorem ent_136:entI prog 136 = true:=by kernel_rfl
@[go_sem] theorem ent_137:entI prog 137 = true:=by kernel_rfl
@[go_sem] theorem res_137:f137.results.toList = [.tmp 4]:=rfl
@[go_sem] theorem ent_138:entI prog 138 = true:=by kernel_rfl
@[go_sem] theorem res_138:f138.results.toList = [.tmp 4]:=rfl
@[go_sem] theorem ent_139:entI prog 139 = true:=by kernel_rfl
@[go_sem] theorem res_139:f139.results.toList = [.tmp 4]:=rfl
@[go_sem] theorem ent_141:entI prog 141 = true:=by kernel_rfl
@[go_sem] theorem res_141:f141.results.toList = [.tmp 4,.tmp 5]:=rfl
@[go_sem] theorem ent_144:entI prog 144 = true:=by kernel_rfl
@[go_sem] theorem res_144:f144.results.toList = [.tmp 4]:=rfl
@[go_sem] theorem ent_145:entI prog 145 = true:=by kernel_rfl
@[go_sem] theorem res_145:f145.results.toList = [.cell 2 27]:=rfl
@[go_sem] theorem ent_146:entI prog 146 = true:=by kernel_rfl
@[go_sem] theorem res_146:f146.results.toList = [.tmp 0]:=rfl
@[go_sem] theorem res_147:f147.results.toList = [.tmp 6]:=rfl
@[go_sem] theorem ent_148:entI prog 148 = true:=by kernel_rfl
@[go_sem] theorem res_148:f148.results.toList = [.cell 2 24]:=rfl
@[go_sem] theorem res_149:f149.results.toList = [.tmp 6]:=rfl
@[go_sem] theorem res_150:f150.results.toList = [.tmp 6]:=rfl
@[go_sem] theorem ent_151:entI prog 151 = true:=by kernel_rfl
@[go_sem] theorem res_151:f151.results.toList = [.cell 2 24]:=rfl
@[go_sem] theorem res_152:f152.results.toList = [.tmp 6]:=rfl
@[go_sem] theorem ent_153:entI prog 153 = true:=by kernel_rfl
@[go_sem] theorem res_153:f153.results.toList = [.tmp 2]:=rfl
@[go_sem] theorem ent_154:entI prog 154 = true:=by kernel_rfl
@[go_sem] theorem res_154:f154.results.toList = [.cell 6 27,.tmp 7]:=rfl
@[go_sem] theorem ent_155:entI prog 155 = true:=by kernel_rfl
@[go_sem] theorem res_155:f155.results.toList = [.tmp 4]:=rfl
@[go_sem] theorem ent_156:entI prog 156 = true:=by kernel_rfl
@[go_sem] theorem res_156:f156.results.toList = [.tmp 2]:=rfl
@[go_sem] theorem ent_157:entI prog 157 = true:=by kernel_rfl
@[go_sem] theorem res_157:f157.results.toList = [.tmp 4]:=rfl
@[go_sem] theorem ent_158:entI prog 158 = true:=by kernel_rfl
@[go_sem] theorem res_158:f158.results.toList = [.tmp 4]:=rfl
@[go_sem] theorem ent_159:entI prog 159 = true:=by kernel_rfl
@[go_sem] theorem res_159:f159.results.toList = [.tmp 6]:=rfl
@[go_sem] theorem ent_160:entI prog 160 = true:=by kernel_rfl
@[go_sem] theorem res_160:f160.results.toList = [.tmp 4]:=rfl
@[go_sem] theorem ent_161:entI prog 161 = true:=by kernel_rfl
@[go_sem] theorem res_161:f161.results.toList = [.cell 4 27,.tmp 5]:=rfl
@[go_sem] theorem ent_169:entI prog 169 = true:=by kernel_rfl
@[go_sem] theorem res_169:f169.results.toList = [.tmp 2]:=rfl
@[go_sem] theorem ent_170:entI prog 170 = true:=by kernel_rfl
@[go_sem] theorem res_170:f170.results.toList = [.tmp 4]:=rfl
@[go_sem] theorem ent_171:entI prog 171 = true:=by kernel_rfl
@[go_sem] theorem res_171:f171.results.toList = [.tmp 4]:=rfl
@[go_sem] theorem ent_172:entI prog 172 = true:=by kernel_rfl
@[go_sem] theorem res_172:f172.results.toList = [.tmp 4]:=rfl
@[go_sem] theorem ent_173:entI prog 173 = true:=by kernel_rfl
@[go_sem] theorem res_173:f173.results.toList = [.tmp 6]:=rfl
@[go_sem] theorem ent_177:entI prog 177 = true:=by kernel_rfl
@[go_sem] theorem res_177:f177.results.toList = [.tmp 4]:=rfl
@[go_sem] theorem ent_178:entI prog 178 = true:=by kernel_rfl
@[go_sem] theorem res_178:f178.results.toList = [.tmp 4]:=rfl
@[go_sem] theorem ent_179:entI prog 179 = true:=by kernel_rfl
@[go_sem] theorem res_179:f179.results.toList = [.tmp 2]:=rfl
@[go_sem] theorem ent_180:entI prog 180 = true:=by kernel_rfl
@[go_sem] theorem res_180:f180.results.toList = []:=rfl
@[go_sem] theorem ent_181:entI prog 181 = true:=by kernel_rfl
@[go_sem] theorem res_181:f181.results.toList = [.tmp 4]:=rfl
@[go_sem] theorem ent_182:entI prog 182 = true:=by kernel_rfl
@[go_sem] theorem res_182:f182.results.toList = [.tmp 4]:=rfl
@[go_sem] theorem ent_184:entI prog 184 = true:=by kernel_rfl
@[go_sem] theorem res_184:f184.results.toList = [.tmp 6]:=rfl
@[go_sem] theorem ent_188:entI prog 188 = true:=by kernel_rfl
@[go_sem] theorem res_188:f188.results.toList = [.tmp 8]:=rfl
@[go_sem] theorem ent_190:entI prog 190 = true:=by kernel_rfl
@[go_sem] theorem res_190:f190.results.toList = [.cell 6 27]:=rfl
@[go_sem] theorem ent_192:entI prog 192 = true:=by kernel_rfl
@[go_sem] theorem res_192:f192.results.toList = [.tmp 4]:=rfl
@[go_sem] theorem ent_193:entI prog 193 = true:=by kernel_rfl
@[go_sem] theorem res_193:f193.results.toList = [.tmp 4]:=rfl
@[go_sem] theorem ent_194:entI prog 194 = true:=by kernel_rfl
@[go_sem] theorem res_194:f194.results.toList = [.tmp 6]:=rfl
@[go_sem] theorem ent_195:entI prog 195 = true:=by kernel_rfl
@[go_sem] theorem res_195:f195.results.toList = [.tmp 4]:=rfl
@[go_sem] theorem ent_196:entI prog 196 = true:=by kernel_rfl
@[go_sem] theorem res_196:f196.results.toList = [.tmp 6]:=rfl
@[go_sem] theorem ent_198:entI prog 198 = true:=by kernel_rfl
@[go_sem] theorem res_198:f198.results.toList = [.tmp 4]:=rfl
@[go_sem] theorem ent_199:entI prog 199 = true:=by kernel_rfl
@[go_sem] theorem res_199:f199.results.toList = [.tmp 3]:=rfl
@[go_sem] theorem ent_200:entI prog 200 = true:=by kernel_rfl
@[go_sem] theorem res_200:f200.results.toList = [.tmp 4]:=rfl
@[go_sem] theorem ent_201:entI prog 201 = true:=by kernel_rfl
@[go_sem] theorem res_201:f201.results.toList = [.tmp 4]:=rfl
@[go_sem] theorem ent_202:entI prog 202 = true:=by kernel_rfl
@[go_sem] theorem res_202:f202.results.toList = [.cell 2 29]:=rfl
@[go_sem] theorem ent_203:entI prog 203 = true:=by kernel_rfl
@[go_sem] theorem res_203:f203.results.toList = [.tmp 4]:=rfl
@[go_sem] theorem res_204:f204.results.toList = [.tmp 6]:=rfl
@[go_sem] theorem res_205:f205.results.toList = [.tmp 6]:=rfl
@[go_sem] theorem res_206:f206.results.toList = [.tmp 6]:=rfl
@[go_sem] theorem res_207:f207.results.toList = [.tmp 6]:=rfl
@[go_sem] theorem res_208:f208.results.toList = [.tmp 6]:=rfl
@[go_sem] theorem res_209:f209.results.toList = [.tmp 6]:=rfl
@[go_sem] theorem res_210:f210.results.toList = [.tmp 6]:=rfl
@[go_sem] theorem res_211:f211.results.toList = [.tmp 6]:=rfl
@[go_sem] theorem res_212:f212.results.toList = [.tmp 6]:=rfl
@[go_sem] theorem res_213:f213.results.toList = [.tmp 6]:=rfl
@[go_sem] theorem res_214:f214.results.toList = [.tmp 6]:=rfl
@[go_sem] theorem ent_215:entI prog 215 = true:=by kernel_rfl
@[go_sem] theorem res_215:f215.results.toList = [.cell 4 27]:=rfl
@[go_sem] theorem res_216:f216.results.toList = [.tmp 6]:=rfl
@[go_sem] theorem res_217:f217.results.toList = [.tmp 6]:=rfl
@[go_sem] theorem ent_218:entI prog 218 = true:=by kernel_rfl
@[go_sem] theorem res_218:f218.results.toList = [.tmp 6]:=rfl
@[go_sem] theorem ent_219:entI prog 219 = true:=by kernel_rfl
@[go_sem] theorem res_219:f219.results.toList = [.cell 4 27,.tmp 5]:=rfl
@[go_sem] theorem ent_220:entI prog 220 = true:=by kernel_rfl
@[go_sem] theorem res_220:f220.results.toList = [.tmp 4]:=rfl
@[go_sem] theorem ent_221:entI prog 221 = true:=by kernel_rfl
@[go_sem] theorem res_221:f221.results.toList = [.tmp 2]:=rfl
@[go_sem] theorem ent_222:entI prog 222 = true:=by kernel_rfl
@[go_sem] theorem res_222:f222.results.toList = [.tmp 2]:=rfl
@[go_sem] theorem ent_224:entI prog 224 = true:=by kernel_rfl
@[go_sem] theorem res_224:f224.results.toList = [.tmp 2]:=rfl
@[go_sem] theorem ent_225:entI prog 225 = true:=by kernel_rfl
@[go_sem] theorem res_225:f225.results.toList = [.cell 4 27]:=rfl
@[go_sem] theorem ent_226:entI prog 226 = true:=by kernel_rfl
@[go_sem] theorem res_226:f226.results.toList = [.tmp 2]:=rfl
@[go_sem] theorem ent_228:entI prog 228 = true:=by kernel_rfl
@[go_sem] theorem res_228:f228.results.toList = [.tmp 4]:=rfl
@[go_sem] theorem ent_231:entI prog 231 = true:=by kernel_rfl
@[go_sem] theorem res_231:f231.results.toList = [.tmp 6]:=rfl
@[go_sem] theorem ent_243:entI prog 243 = true:=by kernel_rfl
@[go_sem] theorem res_243:f243.results.toList = [.tmp 2]:=rfl
@[go_sem] theorem ent_244:entI prog 244 = true:=by kernel_rfl
@[go_sem] theorem res_244:f244.results.toList = [.tmp 2]:=rfl
@[go_sem] theorem ent_249:entI prog 249 = true:=by kernel_rfl
@[go_sem] theorem res_249:f249.results.toList = [.tmp 2]:=rfl
@[go_sem] theorem ent_252:entI prog 252 = true:=by kernel_rfl
@[go_sem] theorem res_252:f252.results.toList = [.tmp 8]:=rfl
@[go_sem] theorem ent_253:entI prog 253 = true:=by kernel_rfl
@[go_sem] theorem res_253:f253.results.toList = [.tmp 2]:=rfl
@[go_sem] theorem ent_255:entI prog 255 = true:=by kernel_rfl
@[go_sem] theorem res_255:f255.results.toList = [.cell 4 29]:=rfl
@[go_sem] theorem ent_256:entI prog 256 = true:=by kernel_rfl
@[go_sem] theorem res_256:f256.results.toList = [.cell 3 29,.tmp 4]:=rfl
@[go_sem] theorem ent_257:entI prog 257 = true:=by kernel_rfl
@[go_sem] theorem res_257:f257.results.toList = [.tmp 2]:=rfl
@[go_sem] theorem ent_266:entI prog 266 = true:=by kernel_rfl
@[go_sem] theorem res_266:f266.results.toList = [.tmp 2]:=rfl
@[go_sem] theorem ent_267:entI prog 267 = true:=by kernel_rfl
@[go_sem] theorem ent_268:entI prog 268 = true:=by kernel_rfl
@[go_sem] theorem res_268:f268.results.toList = [.tmp 4]:=rfl
@[go_sem] theorem ent_269:entI prog 269 = true:=by kernel_rfl
@[go_sem] theorem res_269:f269.results.toList = [.tmp 4]:=rfl
@[go_sem] theorem ent_270:entI prog 270 = true:=by kernel_rfl
@[go_sem] theorem res_270:f270.results.toList = [.tmp 4]:=rfl
@[go_sem] theorem ent_271:entI prog 271 = true:=by kernel_rfl
@[go_sem] theorem res_271:f271.results.toList = [.tmp 2]:=rfl
@[go_sem] theorem ent_272:entI prog 272 = true:=by kernel_rfl
@[go_sem] theorem res_272:f272.results.toList = [.cell 2 264]:=rfl
@[go_sem] theorem ent_273:entI prog 273 = true:=by kernel_rfl
@[go_sem] theorem res_273:f273.results.toList = [.tmp 6,.tmp 7]:=rfl
@[go_sem] theorem ent_274:entI prog 274 = true:=by kernel_rfl
@[go_sem] theorem res_274:f274.results.toList = [.cell 4 27]:=rfl
@[go_sem] theorem ent_275:entI prog 275 = true:=by kernel_rfl
@[go_sem] theorem res_275:f275.results.toList = [.tmp 4]:=rfl
@[go_sem] theorem ent_276:entI prog 276 = true:=by kernel_rfl
@[go_sem] theorem res_276:f276.results.toList = [.tmp 2]:=rfl
@[go_sem] theorem ent_277:entI prog 277 = true:=by kernel_rfl
@[go_sem] theorem res_277:f277.results.toList = [.tmp 2]:=rfl
@[go_sem] theorem ent_278:entI prog 278 = true:=by kernel_rfl
@[go_sem] theorem res_278:f278.results.toList = [.cell 4 29]:=rfl
@[go_sem] theorem ent_279:entI prog 279 = true:=by kernel_rfl
@[go_sem] theorem res_279:f279.results.toList = [.tmp 4]:=rfl
@[go_sem] theorem ent_280:entI prog 280 = true:=by kernel_rfl
@[go_sem] theorem res_280:f280.results.toList = [.tmp 2]:=rfl
@[go_sem] theorem ent_281:entI prog 281 = true:=by kernel_rfl
@[go_sem] theorem res_281:f281.results.toList = [.tmp 4]:=rfl
@[go_sem] theorem ent_282:entI prog 282 = true:=by kernel_rfl
@[go_sem] theorem res_282:f282.results.toList = [.tmp 2]:=rfl
@[go_sem] theorem res_283:f283.results.toList = []:=rfl
@[go_sem] theorem ent_284:entI prog 284 = true:=by kernel_rfl
@[go_sem] theorem res_284:f284.results.toList = [.tmp 4]:=rfl
@[go_sem] theorem ent_294:entI prog 294 = true:=by kernel_rfl
@[go_sem] theorem res_294:f294.results.toList = [.tmp 4]:=rfl
@[go_sem] theorem ent_295:entI prog 295 = true:=by kernel_rfl
@[go_sem] theorem res_295:f295.results.toList = [.tmp 2]:=rfl
@[go_sem] theorem ent_296:entI prog 296 = true:=by kernel_rfl
@[go_sem] theorem res_296:f296.results.toList = [.tmp 2]:=rfl
@[go_sem] theorem ent_297:entI prog 297 = true:=by kernel_rfl
@[go_sem] theorem res_297:f297.results.toList = [.tmp 2]:=rfl
@[go_sem] theorem ent_298:entI prog 298 = true:=by kernel_rfl
@[go_sem] theorem res_298:f298.results.toList = [.tmp 2]:=rfl
@[go_sem] theorem ent_301:entI prog 301 = true:=by kernel_rfl
@[go_sem] theorem res_301:f301.results.toList = [.tmp 4]:=rfl
@[go_sem] theorem ent_303:entI prog 303 = true:=by kernel_rfl
@[go_sem] theorem res_303:f303.results.toList = [.cell 2 29]:=rfl
@[go_sem] theorem ent_304:entI prog 304 = true:=by kernel_rfl
@[go_sem] theorem ent_309:entI prog 309 = true:=by kernel_rfl
@[go_sem] theorem res_309:f309.results.toList = [.tmp 2]:=rfl
@[go_sem] theorem ent_310:entI prog 310 = true:=by kernel_rfl
@[go_sem] theorem res_310:f310.results.toList = [.tmp 2]:=rfl
@[go_sem] theorem ent_311:entI prog 311 = true:=by kernel_rfl
@[go_sem] theorem res_311:f311.results.toList = [.tmp 2]:=rfl
@[go_sem] theorem ent_312:entI prog 312 = true:=by kernel_rfl
@[go_sem] theorem res_312:f312.results.toList = [.tmp 2]:=rfl
@[go_sem] theorem ent_313:entI prog 313 = true:=by kernel_rfl
@[go_sem] theorem res_313:f313.results.toList = [.tmp 2]:=rfl
@[go_sem] theorem ent_314:entI prog 314 = true:=by kernel_rfl
@[go_sem] theorem res_314:f314.results.toList = [.tmp 6,.tmp 7]:=rfl
@[go_sem] theorem ent_315:entI prog 315 = true:=by kernel_rfl
@[go_sem] theorem res_315:f315.results.toList = []:=rfl
@[go_sem] theorem ent_316:entI prog 316 = true:=by kernel_rfl
@[go_sem] theorem res_316:f316.results.toList = [.cell 4 29,.tmp 5]:=rfl
@[go_sem] theorem ent_317:entI prog 317 = true:=by kernel_rfl
@[go_sem] theorem res_317:f317.results.toList = [.tmp 4,.tmp 5]:=rfl
@[go_sem] theorem ent_318:entI prog 318 = true:=by kernel_rfl
@[go_sem] theorem res_318:f318.results.toList = [.tmp 2]:=rfl
@[go_sem] theorem ent_320:entI prog 320 = true:=by kernel_rfl
@[go_sem] theorem res_320:f320.results.toList = [.tmp 2]:=rfl
@[go_sem] theorem ent_325:entI prog 325 = true:=by kernel_rfl
@[go_sem] theorem res_325:f325.results.toList = [.tmp 4]:=rfl
@[go_sem] theorem ent_326:entI prog 326 = true:=by kernel_rfl
@[go_sem] theorem res_326:f326.results.toList = [.tmp 2]:=rfl
@[go_sem] theorem ent_327:entI prog 327 = true:=by kernel_rfl
@[go_sem] theorem res_327:f327.results.toList = [.tmp 2]:=rfl
@[go_sem] theorem ent_329:entI prog 329 = true:=by kernel_rfl
@[go_sem] theorem res_329:f329.results.toList = [.cell 2 29,.tmp 3]:=rfl
@[go_sem] theorem ent_332:entI prog 332 = true:=by kernel_rfl
@[go_sem] theorem res_332:f332.results.toList = []:=rfl
@[go_sem] theorem ent_333:entI prog 333 = true:=by kernel_rfl
@[go_sem] theorem res_333:f333.results.toList = [.tmp 4]:=rfl
@[go_sem] theorem ent_334:entI prog 334 = true:=by kernel_rfl
@[go_sem] theorem res_334:f334.results.toList = [.tmp 2]:=rfl
@[go_sem] theorem ent_338:entI prog 338 = true:=by kernel_rfl
@[go_sem] theorem res_338:f338.results.toList = [.tmp 4]:=rfl
end Go.Proofs.Tryz
