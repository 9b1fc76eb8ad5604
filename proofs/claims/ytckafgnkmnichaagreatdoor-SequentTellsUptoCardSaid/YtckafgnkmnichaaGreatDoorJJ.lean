/- Tables of the seat, printed by tabs.py: -/
import Derived.Test.YtckafgnkmnichaaGreatDoorJI
import Derived.Test.YtckafgnkmnichaaGreatDoorProg
import Derived.KernelRfl
set_option linter.all false
namespace Go.Proofs.Tryz
open Go Go.Iv
@[go_sem] theorem ty_3:tyI prog 3 = some (false,1):=by kernel_rfl
@[go_sem] theorem uZj:intK prog 3 = some .i64:=by kernel_rfl
@[go_sem] theorem uVz:yJz prog 3 = some (.raw (.int .i64 0)):=by kernel_rfl
@[go_sem] theorem ty_4:tyI prog 4 = some (false,1):=by kernel_rfl
@[go_sem] theorem kQb:zJp prog 4 = true:=by kernel_rfl
@[go_sem] theorem ty_5:tyI prog 5 = some (false,1):=by kernel_rfl
@[go_sem] theorem uZi:intK prog 5 = some .u8:=by kernel_rfl
@[go_sem] theorem ty_9:tyI prog 9 = some (false,1):=by kernel_rfl
@[go_sem] theorem kQy:lenI prog 9 = some .str:=by kernel_rfl
@[go_sem] theorem kQp:strT prog 9 = true:=by kernel_rfl
@[go_sem] theorem kQo:tyI prog 22 = some (false,1):=by kernel_rfl
@[go_sem] theorem uGk:lenI prog 22 = some .sl:=by kernel_rfl
@[go_sem] theorem kQw:slI prog 22 = some (27,true,4,72):=by kernel_rfl
@[go_sem] theorem kQn:tyI prog 24 = some (true,2):=by kernel_rfl
@[go_sem] theorem vVa:fldI prog 24 0 = some (0,false,1):=by kernel_rfl
@[go_sem] theorem vV9:fldI prog 24 1 = some (1,false,1):=by kernel_rfl
@[go_sem] theorem uZr:yXv prog 24 = true:=by kernel_rfl
@[go_sem] theorem vWb:yJz prog 24 = some (.agg [.sl ⟨true,.nil,0⟩ [],.sl ⟨true,.nil,0⟩ []]):=by kernel_rfl
@[go_sem] theorem kQm:tyI prog 25 = some (false,1):=by kernel_rfl
@[go_sem] theorem uGj:lenI prog 25 = some .sl:=by kernel_rfl
@[go_sem] theorem kQv:slI prog 25 = some (29,true,3,48):=by kernel_rfl
@[go_sem] theorem kQl:tyI prog 27 = some (true,4):=by kernel_rfl
@[go_sem] theorem vV8:fldI prog 27 0 = some (0,false,1):=by kernel_rfl
@[go_sem] theorem vV7:fldI prog 27 1 = some (1,false,1):=by kernel_rfl
@[go_sem] theorem vV6:fldI prog 27 2 = some (2,false,1):=by kernel_rfl
@[go_sem] theorem vV5:fldI prog 27 3 = some (3,false,1):=by kernel_rfl
@[go_sem] theorem uZq:yXv prog 27 = true:=by kernel_rfl
@[go_sem] theorem vWa:yJz prog 27 = some (.agg [.raw (.int .u8 0),.raw (.string ⟨#[]⟩),.sl ⟨true,.nil,0⟩ [],.sl ⟨true,.nil,0⟩ []]):=by kernel_rfl
@[go_sem] theorem kQk:tyI prog 29 = some (true,3):=by kernel_rfl
@[go_sem] theorem vV4:fldI prog 29 0 = some (0,false,1):=by kernel_rfl
@[go_sem] theorem vV3:fldI prog 29 1 = some (1,false,1):=by kernel_rfl
@[go_sem] theorem vV2:fldI prog 29 2 = some (2,false,1):=by kernel_rfl
@[go_sem] theorem uZp:yXv prog 29 = true:=by kernel_rfl
@[go_sem] theorem vW9:yJz prog 29 = some (.agg [.raw (.bool false),.raw (.string ⟨#[]⟩),.sl ⟨true,.nil,0⟩ []]):=by kernel_rfl
@[go_sem] theorem kQj:tyI prog 30 = some (false,1):=by kernel_rfl
@[go_sem] theorem uGi:lenI prog 30 = some .sl:=by kernel_rfl
@[go_sem] theorem kQu:slI prog 30 = some (32,true,12,216):=by kernel_rfl
@[go_sem] theorem kQi:tyI prog 32 = some (true,12):=by kernel_rfl
@[go_sem] theorem vV1:fldI prog 32 0 = some (0,false,1):=by kernel_rfl
@[go_sem] theorem vV0:fldI prog 32 1 = some (1,true,2):=by kernel_rfl
@[go_sem] theorem vKz:fldI prog 32 2 = some (3,true,4):=by kernel_rfl
@[go_sem] theorem vKy:fldI prog 32 3 = some (7,true,3):=by kernel_rfl
@[go_sem] theorem vKx:fldI prog 32 4 = some (10,false,1):=by kernel_rfl
@[go_sem] theorem vKw:fldI prog 32 5 = some (11,false,1):=by kernel_rfl
@[go_sem] theorem uZo:yXv prog 32 = true:=by kernel_rfl
@[go_sem] theorem vW8:yJz prog 32 = some (.agg [.raw (.int .u8 0),.sl ⟨true,.nil,0⟩ [],.sl ⟨true,.nil,0⟩ [],.raw (.int .u8 0),.raw (.string ⟨#[]⟩),.sl ⟨true,.nil,0⟩ [],.sl ⟨true,.nil,0⟩ [],.raw (.bool false),.raw (.string ⟨#[]⟩),.sl ⟨true,.nil,0⟩ [],.raw (.string ⟨#[]⟩),.sl ⟨true,.nil,0⟩ []]):=by kernel_rfl
@[go_sem] theorem kQh:tyI prog 36 = some (false,1):=by kernel_rfl
@[go_sem] theorem uGh:lenI prog 36 = some .sl:=by kernel_rfl
@[go_sem] theorem kQt:slI prog 36 = some (3,false,1,8):=by kernel_rfl
@[go_sem] theorem vW7:yJz prog 36 = some (.sl ⟨true,.nil,0⟩ []):=by kernel_rfl
@[go_sem] theorem kQg:tyI prog 37 = some (false,1):=by kernel_rfl
@[go_sem] theorem vW6:yJz prog 37 = some (.raw (.int .i64 0)):=by kernel_rfl
@[go_sem] theorem uGg:lenI prog 47 = some .sl:=by kernel_rfl
@[go_sem] theorem kQs:slI prog 47 = some (9,false,1,16):=by kernel_rfl
@[go_sem] theorem uGf:lenI prog 59 = some .sl:=by kernel_rfl
@[go_sem] theorem kQr:slI prog 59 = some (24,true,2,48):=by kernel_rfl
@[go_sem] theorem kQf:tyI prog 76 = some (false,1):=by kernel_rfl
@[go_sem] theorem uGe:lenI prog 76 = some .sl:=by kernel_rfl
@[go_sem] theorem kQq:slI prog 76 = some (78,true,12,216):=by kernel_rfl
@[go_sem] theorem kQe:tyI prog 78 = some (true,12):=by kernel_rfl
@[go_sem] theorem vKv:fldI prog 78 0 = some (0,false,1):=by kernel_rfl
@[go_sem] theorem vKu:fldI prog 78 1 = some (1,true,2):=by kernel_rfl
@[go_sem] theorem vKt:fldI prog 78 2 = some (3,true,4):=by kernel_rfl
@[go_sem] theorem vKs:fldI prog 78 3 = some (7,true,3):=by kernel_rfl
@[go_sem] theorem vKr:fldI prog 78 4 = some (10,false,1):=by kernel_rfl
@[go_sem] theorem vKq:fldI prog 78 5 = some (11,false,1):=by kernel_rfl
@[go_sem] theorem uZn:yXv prog 78 = true:=by kernel_rfl
@[go_sem] theorem vW5:yJz prog 78 = some (.agg [.raw (.int .u8 0),.sl ⟨true,.nil,0⟩ [],.sl ⟨true,.nil,0⟩ [],.raw (.int .u8 0),.raw (.string ⟨#[]⟩),.sl ⟨true,.nil,0⟩ [],.sl ⟨true,.nil,0⟩ [],.raw (.bool false),.raw (.string ⟨#[]⟩),.sl ⟨true,.nil,0⟩ [],.raw (.string ⟨#[]⟩),.sl ⟨true,.nil,0⟩ []]):=by kernel_rfl
@[go_sem] theorem kQd:tyI prog 85 = some (false,1):=by kernel_rfl
@[go_sem] theorem kQc:tyI prog 89 = some (false,1):=by kernel_rfl
@[go_sem] theorem uWh:tyI prog 103 = some (false,1):=by kernel_rfl
@[go_sem] theorem uZ7:mapI prog 103 = some (.str,.raw (.bool false)):=by kernel_rfl
@[go_sem] theorem vJh:yJz prog 103 = some (.raw (.map none)):=by kernel_rfl
@[go_sem] theorem uWg:tyI prog 119 = some (false,1):=by kernel_rfl
@[go_sem] theorem uWf:tyI prog 121 = some (true,5):=by kernel_rfl
@[go_sem] theorem vXc:fldI prog 121 0 = some (0,false,1):=by kernel_rfl
@[go_sem] theorem vXb:fldI prog 121 1 = some (1,false,1):=by kernel_rfl
@[go_sem] theorem vXa:fldI prog 121 2 = some (2,false,1):=by kernel_rfl
@[go_sem] theorem vX9:fldI prog 121 3 = some (3,false,1):=by kernel_rfl
@[go_sem] theorem vX8:fldI prog 121 4 = some (4,false,1):=by kernel_rfl
@[go_sem] theorem vKp:yXv prog 121 = true:=by kernel_rfl
@[go_sem] theorem vJg:yJz prog 121 = some (.agg [.raw (.bool false),.raw (.bool false),.raw (.int .u8 0),.raw (.int .u8 0),.raw .nilFunc]):=by kernel_rfl
@[go_sem] theorem uZ6:mapI prog 123 = some (.int .u8,.agg [.raw (.bool false),.raw (.bool false),.raw (.int .u8 0),.raw (.int .u8 0),.raw .nilFunc]):=by kernel_rfl
@[go_sem] theorem uWe:tyI prog 129 = some (false,1):=by kernel_rfl
@[go_sem] theorem uWd:tyI prog 140 = some (false,1):=by kernel_rfl
@[go_sem] theorem uWc:tyI prog 141 = some (false,1):=by kernel_rfl
@[go_sem] theorem vJf:yJz prog 141 = some (.raw .nilFunc):=by kernel_rfl
@[go_sem] theorem uWb:tyI prog 145 = some (false,1):=by kernel_rfl
@[go_sem] theorem uZ5:mapI prog 145 = some (.str,.raw (.int .i64 0)):=by kernel_rfl
@[go_sem] theorem uWa:tyI prog 147 = some (true,3):=by kernel_rfl
@[go_sem] theorem vX7:fldI prog 147 0 = some (0,false,1):=by kernel_rfl
@[go_sem] theorem vX6:fldI prog 147 1 = some (1,false,1):=by kernel_rfl
@[go_sem] theorem vX5:fldI prog 147 2 = some (2,false,1):=by kernel_rfl
@[go_sem] theorem vKo:yXv prog 147 = true:=by kernel_rfl
@[go_sem] theorem vJe:yJz prog 147 = some (.agg [.raw (.bool false),.raw (.int .i64 0),.raw (.int .i64 0)]):=by kernel_rfl
@[go_sem] theorem uW9:tyI prog 170 = some (true,4):=by kernel_rfl
@[go_sem] theorem vX4:fldI prog 170 0 = some (0,false,1):=by kernel_rfl
@[go_sem] theorem vX3:fldI prog 170 1 = some (1,true,3):=by kernel_rfl
@[go_sem] theorem vKn:yXv prog 170 = true:=by kernel_rfl
@[go_sem] theorem vJd:yJz prog 170 = some (.agg [.raw (.string ⟨#[]⟩),.raw (.bool false),.raw (.string ⟨#[]⟩),.sl ⟨true,.nil,0⟩ []]):=by kernel_rfl
@[go_sem] theorem uZe:lenI prog 171 = some .sl:=by kernel_rfl
@[go_sem] theorem uWo:slI prog 171 = some (170,true,4,64):=by kernel_rfl
@[go_sem] theorem uZd:lenI prog 182 = some .sl:=by kernel_rfl
@[go_sem] theorem uWn:slI prog 182 = some (22,false,1,24):=by kernel_rfl
@[go_sem] theorem uW8:tyI prog 193 = some (true,5):=by kernel_rfl
@[go_sem] theorem vX2:fldI prog 193 0 = some (0,false,1):=by kernel_rfl
@[go_sem] theorem vX1:fldI prog 193 2 = some (2,false,1):=by kernel_rfl
@[go_sem] theorem vX0:fldI prog 193 3 = some (3,false,1):=by kernel_rfl
@[go_sem] theorem vZz:fldI prog 193 4 = some (4,false,1):=by kernel_rfl
@[go_sem] theorem vJc:yJz prog 193 = some (.agg [.raw (.bool false),.raw (.bool false),.raw (.int .u8 0),.raw (.int .i64 0),.raw (.int .i64 0)]):=by kernel_rfl
@[go_sem] theorem uZc:lenI prog 194 = some (.arr 17):=by kernel_rfl
@[go_sem] theorem uVr:arrI prog 194 = some (17,true,5):=by kernel_rfl
@[go_sem] theorem uW7:tyI prog 217 = some (true,4):=by kernel_rfl
@[go_sem] theorem vZy:fldI prog 217 0 = some (0,false,1):=by kernel_rfl
@[go_sem] theorem vZx:fldI prog 217 1 = some (1,true,3):=by kernel_rfl
@[go_sem] theorem vKm:yXv prog 217 = true:=by kernel_rfl
@[go_sem] theorem vJb:yJz prog 217 = some (.agg [.raw (.string ⟨#[]⟩),.raw (.bool false),.raw (.string ⟨#[]⟩),.sl ⟨true,.nil,0⟩ []]):=by kernel_rfl
@[go_sem] theorem uZb:lenI prog 218 = some .sl:=by kernel_rfl
@[go_sem] theorem uWm:slI prog 218 = some (217,true,4,64):=by kernel_rfl
@[go_sem] theorem uWl:slI prog 228 = some (5,false,1,1):=by kernel_rfl
@[go_sem] theorem uVq:xQy prog 228 = true:=by kernel_rfl
@[go_sem] theorem uW6:tyI prog 230 = some (false,1):=by kernel_rfl
@[go_sem] theorem uZa:lenI prog 230 = some .sl:=by kernel_rfl
@[go_sem] theorem uWk:slI prog 230 = some (233,true,2,32):=by kernel_rfl
@[go_sem] theorem uW5:tyI prog 233 = some (true,2):=by kernel_rfl
@[go_sem] theorem vZw:fldI prog 233 0 = some (0,false,1):=by kernel_rfl
@[go_sem] theorem vZv:fldI prog 233 1 = some (1,false,1):=by kernel_rfl
@[go_sem] theorem vKl:yXv prog 233 = true:=by kernel_rfl
@[go_sem] theorem vJa:yJz prog 233 = some (.agg [.raw (.string ⟨#[]⟩),.raw (.string ⟨#[]⟩)]):=by kernel_rfl
@[go_sem] theorem uZ9:lenI prog 262 = some .sl:=by kernel_rfl
@[go_sem] theorem uWj:slI prog 262 = some (264,true,7,88):=by kernel_rfl
@[go_sem] theorem uW4:tyI prog 264 = some (true,7):=by kernel_rfl
@[go_sem] theorem vZu:fldI prog 264 0 = some (0,true,4):=by kernel_rfl
@[go_sem] theorem vZt:fldI prog 264 1 = some (4,false,1):=by kernel_rfl
@[go_sem] theorem vZs:fldI prog 264 2 = some (5,false,1):=by kernel_rfl
@[go_sem] theorem vZr:fldI prog 264 3 = some (6,false,1):=by kernel_rfl
@[go_sem] theorem vKk:yXv prog 264 = true:=by kernel_rfl
@[go_sem] theorem vJ9:yJz prog 264 = some (.agg [.raw (.string ⟨#[]⟩),.raw (.bool false),.raw (.string ⟨#[]⟩),.sl ⟨true,.nil,0⟩ [],.raw (.map none),.raw (.int .i64 0),.raw (.int .i64 0)]):=by kernel_rfl
@[go_sem] theorem uZ8:lenI prog 289 = some .sl:=by kernel_rfl
@[go_sem] theorem uWi:slI prog 289 = some (103,false,1,8):=by kernel_rfl
@[go_sem] theorem kQx:f3.results.toList = [.tmp 4]:=rfl
@[go_sem] theorem kQa:entI prog 14 = true:=by kernel_rfl
@[go_sem] theorem uGd:f14.results.toList = [.tmp 2]:=rfl
@[go_sem] theorem kQ9:entI prog 15 = true:=by kernel_rfl
@[go_sem] theorem uGc:f15.results.toList = [.tmp 4]:=rfl
@[go_sem] theorem kQ8:entI prog 16 = true:=by kernel_rfl
@[go_sem] theorem uGb:f16.results.toList = [.tmp 0]:=rfl
@[go_sem] theorem kQ7:entI prog 17 = true:=by kernel_rfl
@[go_sem] theorem uGa:f17.results.toList = [.cell 4 36,.cell 5 37]:=rfl
@[go_sem] theorem kQ6:entI prog 18 = true:=by kernel_rfl
@[go_sem] theorem uG9:f18.results.toList = [.tmp 4]:=rfl
@[go_sem] theorem kQ5:entI prog 19 = true:=by kernel_rfl
@[go_sem] theorem uG8:f19.results.toList = [.tmp 2]:=rfl
@[go_sem] theorem kQ4:entI prog 20 = true:=by kernel_rfl
@[go_sem] theorem uG7:f20.results.toList = [.tmp 2]:=rfl
@[go_sem] theorem kQ3:entI prog 21 = true:=by kernel_rfl
@[go_sem] theorem uG6:f21.results.toList = [.tmp 2]:=rfl
@[go_sem] theorem kQ2:entI prog 22 = true:=by kernel_rfl
@[go_sem] theorem uG5:f22.results.toList = [.tmp 4]:=rfl
@[go_sem] theorem kQ1:entI prog 23 = true:=by kernel_rfl
@[go_sem] theorem uG4:f23.results.toList = [.tmp 4]:=rfl
@[go_sem] theorem kQ0:entI prog 24 = true:=by kernel_rfl
@[go_sem] theorem uG3:f24.results.toList = [.tmp 2]:=rfl
@[go_sem] theorem uUz:entI prog 25 = true:=by kernel_rfl
@[go_sem] theorem uG2:f25.results.toList = [.cell 2 24]:=rfl
@[go_sem] theorem uUy:entI prog 26 = true:=by kernel_rfl
@[go_sem] theorem uG1:f26.results.toList = [.cell 4 24]:=rfl
@[go_sem] theorem uUx:entI prog 27 = true:=by kernel_rfl
@[go_sem] theorem uG0:f27.results.toList = [.tmp 2]:=rfl
@[go_sem] theorem uUw:entI prog 29 = true:=by kernel_rfl
@[go_sem] theorem uYz:f29.results.toList = [.tmp 2]:=rfl
@[go_sem] theorem uUv:entI prog 33 = true:=by kernel_rfl
@[go_sem] theorem uYy:f33.results.toList = [.cell 2 24,.tmp 3]:=rfl
@[go_sem] theorem uUu:entI prog 35 = true:=by kernel_rfl
@[go_sem] theorem uYx:f35.results.toList = [.tmp 4]:=rfl
@[go_sem] theorem uUt:entI prog 37 = true:=by kernel_rfl
@[go_sem] theorem uYw:f37.results.toList = [.tmp 12,.tmp 13]:=rfl
@[go_sem] theorem uUs:entI prog 40 = true:=by kernel_rfl
@[go_sem] theorem uYv:f40.results.toList = [.tmp 4]:=rfl
@[go_sem] theorem uUr:entI prog 41 = true:=by kernel_rfl
@[go_sem] theorem uYu:f41.results.toList = [.cell 2 27]:=rfl
@[go_sem] theorem uUq:entI prog 42 = true:=by kernel_rfl
@[go_sem] theorem uYt:f42.results.toList = [.cell 4 27]:=rfl
@[go_sem] theorem uUp:entI prog 43 = true:=by kernel_rfl
@[go_sem] theorem uYs:f43.results.toList = [.tmp 4]:=rfl
@[go_sem] theorem uUo:entI prog 46 = true:=by kernel_rfl
@[go_sem] theorem uYr:f46.results.toList = [.cell 6 27]:=rfl
@[go_sem] theorem uUn:entI prog 47 = true:=by kernel_rfl
@[go_sem] theorem uYq:f47.results.toList = [.tmp 10,.tmp 11]:=rfl
@[go_sem] theorem uUm:entI prog 50 = true:=by kernel_rfl
@[go_sem] theorem uYp:f50.results.toList = [.tmp 4]:=rfl
@[go_sem] theorem uUl:entI prog 51 = true:=by kernel_rfl
@[go_sem] theorem uYo:f51.results.toList = [.cell 2 78]:=rfl
@[go_sem] theorem uUk:entI prog 52 = true:=by kernel_rfl
@[go_sem] theorem uYn:f52.results.toList = [.cell 2 32]:=rfl
@[go_sem] theorem uUj:entI prog 53 = true:=by kernel_rfl
@[go_sem] theorem uYm:f53.results.toList = [.tmp 4,.tmp 5]:=rfl
@[go_sem] theorem uUi:entI prog 54 = true:=by kernel_rfl
@[go_sem] theorem uYl:f54.results.toList = [.tmp 2]:=rfl
@[go_sem] theorem uUh:entI prog 55 = true:=by kernel_rfl
@[go_sem] theorem uYk:f55.results.toList = [.tmp 2]:=rfl
@[go_sem] theorem uUg:entI prog 56 = true:=by kernel_rfl
@[go_sem] theorem uYj:f56.results.toList = [.tmp 2]:=rfl
@[go_sem] theorem uUf:entI prog 57 = true:=by kernel_rfl
@[go_sem] theorem uYi:f57.results.toList = [.tmp 4]:=rfl
@[go_sem] theorem uUe:entI prog 58 = true:=by kernel_rfl
@[go_sem] theorem uYh:f58.results.toList = [.cell 2 29]:=rfl
@[go_sem] theorem uUd:entI prog 59 = true:=by kernel_rfl
@[go_sem] theorem uYg:f59.results.toList = [.tmp 2]:=rfl
@[go_sem] theorem uUc:entI prog 60 = true:=by kernel_rfl
@[go_sem] theorem uYf:f60.results.toList = [.tmp 2]:=rfl
@[go_sem] theorem uUb:entI prog 61 = true:=by kernel_rfl
@[go_sem] theorem uYe:f61.results.toList = [.tmp 4]:=rfl
@[go_sem] theorem uUa:entI prog 62 = true:=by kernel_rfl
@[go_sem] theorem uYd:f62.results.toList = [.tmp 2]:=rfl
@[go_sem] theorem uU9:entI prog 63 = true:=by kernel_rfl
@[go_sem] theorem uYc:f63.results.toList = [.tmp 4]:=rfl
@[go_sem] theorem uU7:entI prog 64 = true:=by kernel_rfl
@[go_sem] theorem uYb:f64.results.toList = [.tmp 4]:=rfl
@[go_sem] theorem uU6:entI prog 65 = true:=by kernel_rfl
@[go_sem] theorem uYa:f65.results.toList = [.tmp 2]:=rfl
@[go_sem] theorem uU5:entI prog 66 = true:=by kernel_rfl
@[go_sem] theorem uY9:f66.results.toList = [.tmp 4]:=rfl
@[go_sem] theorem uU4:entI prog 67 = true:=by kernel_rfl
@[go_sem] theorem uY8:f67.results.toList = [.tmp 2]:=rfl
@[go_sem] theorem uU3:entI prog 68 = true:=by kernel_rfl
@[go_sem] theorem uY7:f68.results.toList = [.tmp 4]:=rfl
@[go_sem] theorem uU2:entI prog 69 = true:=by kernel_rfl
@[go_sem] theorem uY6:f69.results.toList = [.tmp 4]:=rfl
@[go_sem] theorem uU1:entI prog 70 = true:=by kernel_rfl
@[go_sem] theorem uY5:f70.results.toList = [.tmp 4]:=rfl
@[go_sem] theorem uU0:entI prog 71 = true:=by kernel_rfl
@[go_sem] theorem uY4:f71.results.toList = [.tmp 4]:=rfl
@[go_sem] theorem uGz:entI prog 72 = true:=by kernel_rfl
@[go_sem] theorem uY3:f72.results.toList = [.tmp 2]:=rfl
@[go_sem] theorem uGy:entI prog 73 = true:=by kernel_rfl
@[go_sem] theorem uGx:entI prog 74 = true:=by kernel_rfl
@[go_sem] theorem uGw:entI prog 75 = true:=by kernel_rfl
@[go_sem] theorem uY2:f75.results.toList = [.tmp 2]:=rfl
@[go_sem] theorem uGv:entI prog 76 = true:=by kernel_rfl
@[go_sem] theorem uY1:f76.results.toList = [.tmp 2]:=rfl
@[go_sem] theorem uGu:entI prog 78 = true:=by kernel_rfl
@[go_sem] theorem uY0:f78.results.toList = [.tmp 2]:=rfl
@[go_sem] theorem uGt:entI prog 82 = true:=by kernel_rfl
@[go_sem] theorem uWz:f82.results.toList = [.tmp 4]:=rfl
@[go_sem] theorem uGs:entI prog 83 = true:=by kernel_rfl
@[go_sem] theorem uWy:f83.results.toList = [.tmp 4]:=rfl
@[go_sem] theorem uGr:entI prog 87 = true:=by kernel_rfl
@[go_sem] theorem uWx:f87.results.toList = [.tmp 2,.tmp 3]:=rfl
@[go_sem] theorem uGq:entI prog 88 = true:=by kernel_rfl
@[go_sem] theorem uWw:f88.results.toList = [.tmp 4]:=rfl
@[go_sem] theorem uGp:entI prog 96 = true:=by kernel_rfl
@[go_sem] theorem uWv:f96.results.toList = [.tmp 12,.tmp 13]:=rfl
@[go_sem] theorem uGo:entI prog 97 = true:=by kernel_rfl
@[go_sem] theorem uWu:f97.results.toList = [.tmp 2]:=rfl
@[go_sem] theorem uGn:entI prog 98 = true:=by kernel_rfl
@[go_sem] theorem uWt:f98.results.toList = [.tmp 2]:=rfl
@[go_sem] theorem uGm:entI prog 99 = true:=by kernel_rfl
@[go_sem] theorem uWs:f99.results.toList = [.tmp 10,.tmp 11]:=rfl
@[go_sem] theorem uVo:entI prog 100 = true:=by kernel_rfl
@[go_sem] theorem uQx:f100.results.toList = [.tmp 4]:=rfl
@[go_sem] theorem uVn:entI prog 101 = true:=by kernel_rfl
@[go_sem] theorem uQw:f101.results.toList = [.tmp 4]:=rfl
@[go_sem] theorem uVm:entI prog 102 = true:=by kernel_rfl
@[go_sem] theorem uQv:f102.results.toList = [.tmp 3]:=rfl
@[go_sem] theorem uVl:entI prog 103 = true:=by kernel_rfl
@[go_sem] theorem uQu:f103.results.toList = [.tmp 4,.tmp 5,.tmp 6,.tmp 7]:=rfl
@[go_sem] theorem uVk:entI prog 104 = true:=by kernel_rfl
@[go_sem] theorem uQt:f104.results.toList = [.tmp 4]:=rfl
@[go_sem] theorem uVj:entI prog 105 = true:=by kernel_rfl
@[go_sem] theorem uQs:f105.results.toList = [.cell 4 24]:=rfl
@[go_sem] theorem uVi:entI prog 106 = true:=by kernel_rfl
@[go_sem] theorem uQr:f106.results.toList = [.tmp 2]:=rfl
@[go_sem] theorem uVh:entI prog 107 = true:=by kernel_rfl
@[go_sem] theorem uQq:f107.results.toList = [.tmp 2]:=rfl
@[go_sem] theorem uVg:entI prog 108 = true:=by kernel_rfl
@[go_sem] theorem uQp:f108.results.toList = [.cell 6 27,.tmp 7]:=rfl
@[go_sem] theorem uVf:entI prog 113 = true:=by kernel_rfl
@[go_sem] theorem uQo:f113.results.toList = [.cell 2 27]:=rfl
@[go_sem] theorem uVe:entI prog 114 = true:=by kernel_rfl
@[go_sem] theorem uQn:f114.results.toList = [.cell 2 29]:=rfl
@[go_sem] theorem uVd:entI prog 115 = true:=by kernel_rfl
@[go_sem] theorem uQm:f115.results.toList = [.tmp 6,.tmp 7]:=rfl
@[go_sem] theorem uVc:entI prog 116 = true:=by kernel_rfl
@[go_sem] theorem uQl:f116.results.toList = [.tmp 4]:=rfl
@[go_sem] theorem uVb:entI prog 117 = true:=by kernel_rfl
@[go_sem] theorem uQk:f117.results.toList = [.tmp 4]:=rfl
@[go_sem] theorem uQj:f118.results.toList = []:=rfl
@[go_sem] theorem uVa:entI prog 119 = true:=by kernel_rfl
@[go_sem] theorem uQi:f119.results.toList = [.tmp 5]:=rfl
@[go_sem] theorem uV9:entI prog 120 = true:=by kernel_rfl
@[go_sem] theorem uQh:f120.results.toList = [.tmp 2]:=rfl
@[go_sem] theorem uV8:entI prog 121 = true:=by kernel_rfl
@[go_sem] theorem uQg:f121.results.toList = [.tmp 4]:=rfl
@[go_sem] theorem uV7:entI prog 122 = true:=by kernel_rfl
@[go_sem] theorem uQf:f122.results.toList = [.tmp 4]:=rfl
@[go_sem] theorem uV6:entI prog 126 = true:=by kernel_rfl
@[go_sem] theorem uQe:f126.results.toList = []:=rfl
@[go_sem] theorem uV5:entI prog 127 = true:=by kernel_rfl
@[go_sem] theorem uQd:f127.results.toList = [.tmp 6]:=rfl
@[go_sem] theorem uV4:entI prog 128 = true:=by kernel_rfl
@[go_sem] theorem uQc:f128.results.toList = [.tmp 6]:=rfl
@[go_sem] theorem uV3:entI prog 131 = true:=by kernel_rfl
@[go_sem] theorem uQb:f131.results.toList = [.tmp 6]:=rfl
@[go_sem] theorem uV2:entI prog 132 = true:=by kernel_rfl
@[go_sem] theorem uQa:f132.results.toList = [.tmp 4]:=rfl
@[go_sem] theorem uV1:entI prog 135 = true:=by kernel_rfl
@[go_sem] theorem uQ9:f135.results.toList = [.cell 2 27,.tmp 3]:=rfl
@[go_sem] theorem uV0:entI prog 136 = true:=by kernel_rfl
@[go_sem] theorem uKz:entI prog 137 = true:=by kernel_rfl
@[go_sem] theorem uQ8:f137.results.toList = [.tmp 4]:=rfl
@[go_sem] theorem uKy:entI prog 138 = true:=by kernel_rfl
@[go_sem] theorem uQ7:f138.results.toList = [.tmp 4]:=rfl
@[go_sem] theorem uKx:entI prog 139 = true:=by kernel_rfl
@[go_sem] theorem uQ6:f139.results.toList = [.tmp 4]:=rfl
@[go_sem] theorem uKw:entI prog 141 = true:=by kernel_rfl
@[go_sem] theorem uQ5:f141.results.toList = [.tmp 4,.tmp 5]:=rfl
@[go_sem] theorem uKv:entI prog 144 = true:=by kernel_rfl
@[go_sem] theorem uQ4:f144.results.toList = [.tmp 4]:=rfl
@[go_sem] theorem uKu:entI prog 145 = true:=by kernel_rfl
@[go_sem] theorem uQ3:f145.results.toList = [.cell 2 27]:=rfl
@[go_sem] theorem uKt:entI prog 146 = true:=by kernel_rfl
@[go_sem] theorem uQ2:f146.results.toList = [.tmp 0]:=rfl
@[go_sem] theorem uQ1:f147.results.toList = [.tmp 6]:=rfl
@[go_sem] theorem uKs:entI prog 148 = true:=by kernel_rfl
@[go_sem] theorem uQ0:f148.results.toList = [.cell 2 24]:=rfl
@[go_sem] theorem vUz:f149.results.toList = [.tmp 6]:=rfl
@[go_sem] theorem vUy:f150.results.toList = [.tmp 6]:=rfl
@[go_sem] theorem uKr:entI prog 151 = true:=by kernel_rfl
@[go_sem] theorem vUx:f151.results.toList = [.cell 2 24]:=rfl
@[go_sem] theorem vUw:f152.results.toList = [.tmp 6]:=rfl
@[go_sem] theorem uKq:entI prog 153 = true:=by kernel_rfl
@[go_sem] theorem vUv:f153.results.toList = [.tmp 2]:=rfl
@[go_sem] theorem uKp:entI prog 154 = true:=by kernel_rfl
@[go_sem] theorem vUu:f154.results.toList = [.cell 6 27,.tmp 7]:=rfl
@[go_sem] theorem uKo:entI prog 155 = true:=by kernel_rfl
@[go_sem] theorem vUt:f155.results.toList = [.tmp 4]:=rfl
@[go_sem] theorem uKn:entI prog 156 = true:=by kernel_rfl
@[go_sem] theorem vUs:f156.results.toList = [.tmp 2]:=rfl
@[go_sem] theorem uKm:entI prog 157 = true:=by kernel_rfl
@[go_sem] theorem vUr:f157.results.toList = [.tmp 4]:=rfl
@[go_sem] theorem uKl:entI prog 158 = true:=by kernel_rfl
@[go_sem] theorem vUq:f158.results.toList = [.tmp 4]:=rfl
@[go_sem] theorem uKk:entI prog 159 = true:=by kernel_rfl
@[go_sem] theorem vUp:f159.results.toList = [.tmp 6]:=rfl
@[go_sem] theorem uKj:entI prog 160 = true:=by kernel_rfl
@[go_sem] theorem vUo:f160.results.toList = [.tmp 4]:=rfl
@[go_sem] theorem uKi:entI prog 161 = true:=by kernel_rfl
@[go_sem] theorem vUn:f161.results.toList = [.cell 4 27,.tmp 5]:=rfl
@[go_sem] theorem uKh:entI prog 169 = true:=by kernel_rfl
@[go_sem] theorem vUm:f169.results.toList = [.tmp 2]:=rfl
@[go_sem] theorem uKg:entI prog 170 = true:=by kernel_rfl
@[go_sem] theorem vUl:f170.results.toList = [.tmp 4]:=rfl
@[go_sem] theorem uKf:entI prog 171 = true:=by kernel_rfl
@[go_sem] theorem vUk:f171.results.toList = [.tmp 4]:=rfl
@[go_sem] theorem uKe:entI prog 172 = true:=by kernel_rfl
@[go_sem] theorem vUj:f172.results.toList = [.tmp 4]:=rfl
@[go_sem] theorem uKd:entI prog 173 = true:=by kernel_rfl
@[go_sem] theorem vUi:f173.results.toList = [.tmp 6]:=rfl
@[go_sem] theorem uKc:entI prog 177 = true:=by kernel_rfl
@[go_sem] theorem vUh:f177.results.toList = [.tmp 4]:=rfl
@[go_sem] theorem uKb:entI prog 178 = true:=by kernel_rfl
@[go_sem] theorem vUg:f178.results.toList = [.tmp 4]:=rfl
@[go_sem] theorem uKa:entI prog 179 = true:=by kernel_rfl
@[go_sem] theorem vUf:f179.results.toList = [.tmp 2]:=rfl
@[go_sem] theorem uK9:entI prog 180 = true:=by kernel_rfl
@[go_sem] theorem vUe:f180.results.toList = []:=rfl
@[go_sem] theorem uK8:entI prog 181 = true:=by kernel_rfl
@[go_sem] theorem vUd:f181.results.toList = [.tmp 4]:=rfl
@[go_sem] theorem uK7:entI prog 182 = true:=by kernel_rfl
@[go_sem] theorem vUc:f182.results.toList = [.tmp 4]:=rfl
@[go_sem] theorem uK6:entI prog 184 = true:=by kernel_rfl
@[go_sem] theorem vUb:f184.results.toList = [.tmp 6]:=rfl
@[go_sem] theorem uK5:entI prog 188 = true:=by kernel_rfl
@[go_sem] theorem vUa:f188.results.toList = [.tmp 8]:=rfl
@[go_sem] theorem uK4:entI prog 190 = true:=by kernel_rfl
@[go_sem] theorem vU9:f190.results.toList = [.cell 6 27]:=rfl
@[go_sem] theorem uK3:entI prog 192 = true:=by kernel_rfl
@[go_sem] theorem vU8:f192.results.toList = [.tmp 4]:=rfl
@[go_sem] theorem uK2:entI prog 193 = true:=by kernel_rfl
@[go_sem] theorem vU7:f193.results.toList = [.tmp 4]:=rfl
@[go_sem] theorem uK1:entI prog 194 = true:=by kernel_rfl
@[go_sem] theorem vU6:f194.results.toList = [.tmp 6]:=rfl
@[go_sem] theorem uK0:entI prog 195 = true:=by kernel_rfl
@[go_sem] theorem vU5:f195.results.toList = [.tmp 4]:=rfl
@[go_sem] theorem uJz:entI prog 196 = true:=by kernel_rfl
@[go_sem] theorem vU4:f196.results.toList = [.tmp 6]:=rfl
@[go_sem] theorem uJy:entI prog 198 = true:=by kernel_rfl
@[go_sem] theorem vU3:f198.results.toList = [.tmp 4]:=rfl
@[go_sem] theorem uJx:entI prog 199 = true:=by kernel_rfl
@[go_sem] theorem vU2:f199.results.toList = [.tmp 3]:=rfl
@[go_sem] theorem uJw:entI prog 200 = true:=by kernel_rfl
@[go_sem] theorem vU1:f200.results.toList = [.tmp 4]:=rfl
@[go_sem] theorem uJv:entI prog 201 = true:=by kernel_rfl
@[go_sem] theorem vU0:f201.results.toList = [.tmp 4]:=rfl
@[go_sem] theorem uJu:entI prog 202 = true:=by kernel_rfl
@[go_sem] theorem vGz:f202.results.toList = [.cell 2 29]:=rfl
@[go_sem] theorem uJt:entI prog 203 = true:=by kernel_rfl
@[go_sem] theorem vGy:f203.results.toList = [.tmp 4]:=rfl
@[go_sem] theorem vGx:f204.results.toList = [.tmp 6]:=rfl
@[go_sem] theorem vGw:f205.results.toList = [.tmp 6]:=rfl
@[go_sem] theorem vGv:f206.results.toList = [.tmp 6]:=rfl
@[go_sem] theorem vGu:f207.results.toList = [.tmp 6]:=rfl
@[go_sem] theorem vGt:f208.results.toList = [.tmp 6]:=rfl
@[go_sem] theorem vGs:f209.results.toList = [.tmp 6]:=rfl
@[go_sem] theorem vGr:f210.results.toList = [.tmp 6]:=rfl
@[go_sem] theorem vGq:f211.results.toList = [.tmp 6]:=rfl
@[go_sem] theorem vGp:f212.results.toList = [.tmp 6]:=rfl
@[go_sem] theorem vGo:f213.results.toList = [.tmp 6]:=rfl
@[go_sem] theorem vGn:f214.results.toList = [.tmp 6]:=rfl
@[go_sem] theorem uJs:entI prog 215 = true:=by kernel_rfl
@[go_sem] theorem vGm:f215.results.toList = [.cell 4 27]:=rfl
@[go_sem] theorem vGl:f216.results.toList = [.tmp 6]:=rfl
@[go_sem] theorem vGk:f217.results.toList = [.tmp 6]:=rfl
@[go_sem] theorem uJr:entI prog 218 = true:=by kernel_rfl
@[go_sem] theorem vGj:f218.results.toList = [.tmp 6]:=rfl
@[go_sem] theorem uJq:entI prog 219 = true:=by kernel_rfl
@[go_sem] theorem vGi:f219.results.toList = [.cell 4 27,.tmp 5]:=rfl
@[go_sem] theorem uJp:entI prog 220 = true:=by kernel_rfl
@[go_sem] theorem vGh:f220.results.toList = [.tmp 4]:=rfl
@[go_sem] theorem uJo:entI prog 221 = true:=by kernel_rfl
@[go_sem] theorem vGg:f221.results.toList = [.tmp 2]:=rfl
@[go_sem] theorem uJn:entI prog 222 = true:=by kernel_rfl
@[go_sem] theorem vGf:f222.results.toList = [.tmp 2]:=rfl
@[go_sem] theorem uJm:entI prog 224 = true:=by kernel_rfl
@[go_sem] theorem vGe:f224.results.toList = [.tmp 2]:=rfl
@[go_sem] theorem uJl:entI prog 225 = true:=by kernel_rfl
@[go_sem] theorem vGd:f225.results.toList = [.cell 4 27]:=rfl
@[go_sem] theorem uJk:entI prog 226 = true:=by kernel_rfl
@[go_sem] theorem vGc:f226.results.toList = [.tmp 2]:=rfl
@[go_sem] theorem uJj:entI prog 228 = true:=by kernel_rfl
@[go_sem] theorem vGb:f228.results.toList = [.tmp 4]:=rfl
@[go_sem] theorem uJi:entI prog 231 = true:=by kernel_rfl
@[go_sem] theorem vGa:f231.results.toList = [.tmp 6]:=rfl
@[go_sem] theorem uJh:entI prog 243 = true:=by kernel_rfl
@[go_sem] theorem vG9:f243.results.toList = [.tmp 2]:=rfl
@[go_sem] theorem uJg:entI prog 244 = true:=by kernel_rfl
@[go_sem] theorem vG8:f244.results.toList = [.tmp 2]:=rfl
@[go_sem] theorem uJf:entI prog 249 = true:=by kernel_rfl
@[go_sem] theorem vG7:f249.results.toList = [.tmp 2]:=rfl
@[go_sem] theorem uJe:entI prog 252 = true:=by kernel_rfl
@[go_sem] theorem vG6:f252.results.toList = [.tmp 8]:=rfl
@[go_sem] theorem uJd:entI prog 253 = true:=by kernel_rfl
@[go_sem] theorem vG5:f253.results.toList = [.tmp 2]:=rfl
@[go_sem] theorem uJc:entI prog 255 = true:=by kernel_rfl
@[go_sem] theorem vG4:f255.results.toList = [.cell 4 29]:=rfl
@[go_sem] theorem uJb:entI prog 256 = true:=by kernel_rfl
@[go_sem] theorem vG3:f256.results.toList = [.cell 3 29,.tmp 4]:=rfl
@[go_sem] theorem uJa:entI prog 257 = true:=by kernel_rfl
@[go_sem] theorem vG2:f257.results.toList = [.tmp 2]:=rfl
@[go_sem] theorem uJ9:entI prog 266 = true:=by kernel_rfl
@[go_sem] theorem vG1:f266.results.toList = [.tmp 2]:=rfl
@[go_sem] theorem uJ8:entI prog 267 = true:=by kernel_rfl
@[go_sem] theorem uJ7:entI prog 268 = true:=by kernel_rfl
@[go_sem] theorem vG0:f268.results.toList = [.tmp 4]:=rfl
@[go_sem] theorem uJ6:entI prog 269 = true:=by kernel_rfl
@[go_sem] theorem vYz:f269.results.toList = [.tmp 4]:=rfl
@[go_sem] theorem uJ5:entI prog 270 = true:=by kernel_rfl
@[go_sem] theorem vYy:f270.results.toList = [.tmp 4]:=rfl
@[go_sem] theorem uJ4:entI prog 271 = true:=by kernel_rfl
@[go_sem] theorem vYx:f271.results.toList = [.tmp 2]:=rfl
@[go_sem] theorem uJ3:entI prog 272 = true:=by kernel_rfl
@[go_sem] theorem vYw:f272.results.toList = [.cell 2 264]:=rfl
@[go_sem] theorem uJ2:entI prog 273 = true:=by kernel_rfl
@[go_sem] theorem vYv:f273.results.toList = [.tmp 6,.tmp 7]:=rfl
@[go_sem] theorem uJ1:entI prog 274 = true:=by kernel_rfl
@[go_sem] theorem vYu:f274.results.toList = [.cell 4 27]:=rfl
@[go_sem] theorem uJ0:entI prog 275 = true:=by kernel_rfl
@[go_sem] theorem vYt:f275.results.toList = [.tmp 4]:=rfl
@[go_sem] theorem uXz:entI prog 276 = true:=by kernel_rfl
@[go_sem] theorem vYs:f276.results.toList = [.tmp 2]:=rfl
@[go_sem] theorem uXy:entI prog 277 = true:=by kernel_rfl
@[go_sem] theorem vYr:f277.results.toList = [.tmp 2]:=rfl
@[go_sem] theorem uXx:entI prog 278 = true:=by kernel_rfl
@[go_sem] theorem vYq:f278.results.toList = [.cell 4 29]:=rfl
@[go_sem] theorem uXw:entI prog 279 = true:=by kernel_rfl
@[go_sem] theorem vYp:f279.results.toList = [.tmp 4]:=rfl
@[go_sem] theorem uXv:entI prog 280 = true:=by kernel_rfl
@[go_sem] theorem vYo:f280.results.toList = [.tmp 2]:=rfl
@[go_sem] theorem uXu:entI prog 281 = true:=by kernel_rfl
@[go_sem] theorem vYn:f281.results.toList = [.tmp 4]:=rfl
@[go_sem] theorem uXt:entI prog 282 = true:=by kernel_rfl
@[go_sem] theorem vYm:f282.results.toList = [.tmp 2]:=rfl
@[go_sem] theorem vYl:f283.results.toList = []:=rfl
@[go_sem] theorem uXs:entI prog 284 = true:=by kernel_rfl
@[go_sem] theorem vYk:f284.results.toList = [.tmp 4]:=rfl
@[go_sem] theorem uXr:entI prog 294 = true:=by kernel_rfl
@[go_sem] theorem vYj:f294.results.toList = [.tmp 4]:=rfl
@[go_sem] theorem uXq:entI prog 295 = true:=by kernel_rfl
@[go_sem] theorem vYi:f295.results.toList = [.tmp 2]:=rfl
@[go_sem] theorem uXp:entI prog 296 = true:=by kernel_rfl
@[go_sem] theorem vYh:f296.results.toList = [.tmp 2]:=rfl
@[go_sem] theorem uXo:entI prog 297 = true:=by kernel_rfl
@[go_sem] theorem vYg:f297.results.toList = [.tmp 2]:=rfl
@[go_sem] theorem uXn:entI prog 298 = true:=by kernel_rfl
@[go_sem] theorem vYf:f298.results.toList = [.tmp 2]:=rfl
@[go_sem] theorem uXm:entI prog 301 = true:=by kernel_rfl
@[go_sem] theorem vYe:f301.results.toList = [.tmp 4]:=rfl
@[go_sem] theorem uXl:entI prog 303 = true:=by kernel_rfl
@[go_sem] theorem vYd:f303.results.toList = [.cell 2 29]:=rfl
@[go_sem] theorem uXk:entI prog 304 = true:=by kernel_rfl
@[go_sem] theorem uXj:entI prog 309 = true:=by kernel_rfl
@[go_sem] theorem vYc:f309.results.toList = [.tmp 2]:=rfl
@[go_sem] theorem uXi:entI prog 310 = true:=by kernel_rfl
@[go_sem] theorem vYb:f310.results.toList = [.tmp 2]:=rfl
@[go_sem] theorem uXh:entI prog 311 = true:=by kernel_rfl
@[go_sem] theorem vYa:f311.results.toList = [.tmp 2]:=rfl
@[go_sem] theorem uXg:entI prog 312 = true:=by kernel_rfl
@[go_sem] theorem vY9:f312.results.toList = [.tmp 2]:=rfl
@[go_sem] theorem uXf:entI prog 313 = true:=by kernel_rfl
@[go_sem] theorem vY8:f313.results.toList = [.tmp 2]:=rfl
@[go_sem] theorem uXe:entI prog 314 = true:=by kernel_rfl
@[go_sem] theorem vY7:f314.results.toList = [.tmp 6,.tmp 7]:=rfl
@[go_sem] theorem uXd:entI prog 315 = true:=by kernel_rfl
@[go_sem] theorem vY6:f315.results.toList = []:=rfl
@[go_sem] theorem uXc:entI prog 316 = true:=by kernel_rfl
@[go_sem] theorem vY5:f316.results.toList = [.cell 4 29,.tmp 5]:=rfl
@[go_sem] theorem uXb:entI prog 317 = true:=by kernel_rfl
@[go_sem] theorem vY4:f317.results.toList = [.tmp 4,.tmp 5]:=rfl
@[go_sem] theorem uXa:entI prog 318 = true:=by kernel_rfl
@[go_sem] theorem vY3:f318.results.toList = [.tmp 2]:=rfl
@[go_sem] theorem uX9:entI prog 320 = true:=by kernel_rfl
@[go_sem] theorem vY2:f320.results.toList = [.tmp 2]:=rfl
@[go_sem] theorem uX8:entI prog 325 = true:=by kernel_rfl
@[go_sem] theorem vY1:f325.results.toList = [.tmp 4]:=rfl
@[go_sem] theorem uX7:entI prog 326 = true:=by kernel_rfl
@[go_sem] theorem vY0:f326.results.toList = [.tmp 2]:=rfl
@[go_sem] theorem uX6:entI prog 327 = true:=by kernel_rfl
@[go_sem] theorem vWz:f327.results.toList = [.tmp 2]:=rfl
@[go_sem] theorem uX5:entI prog 329 = true:=by kernel_rfl
@[go_sem] theorem vWy:f329.results.toList = [.cell 2 29,.tmp 3]:=rfl
@[go_sem] theorem uX4:entI prog 332 = true:=by kernel_rfl
@[go_sem] theorem vWx:f332.results.toList = []:=rfl
@[go_sem] theorem uX3:entI prog 333 = true:=by kernel_rfl
@[go_sem] theorem vWw:f333.results.toList = [.tmp 4]:=rfl
@[go_sem] theorem uX2:entI prog 334 = true:=by kernel_rfl
@[go_sem] theorem vWv:f334.results.toList = [.tmp 2]:=rfl
@[go_sem] theorem uX1:entI prog 338 = true:=by kernel_rfl
@[go_sem] theorem vWu:f338.results.toList = [.tmp 4]:=rfl
end Go.Proofs.Tryz
