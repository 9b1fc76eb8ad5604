/- Tables of the seat, printed by tabs.py: -/
import Derived.Test.YtjbhofcbleepiaaGreatDoorJI
import Derived.Test.YtjbhofcbleepiaaGreatDoorProg
import Derived.KernelRfl
set_option linter.all false
namespace Go.Proofs.Tryz
open Go Go.Iv
@[go_sem] theorem ty_3:tyI prog 3 = some (false,1):=by kernel_rfl
@[go_sem] theorem vZ5:intK prog 3 = some .i64:=by kernel_rfl
@[go_sem] theorem uVs:yJm prog 3 = some (.raw (.int .i64 0)):=by kernel_rfl
@[go_sem] theorem ty_4:tyI prog 4 = some (false,1):=by kernel_rfl
@[go_sem] theorem uUy:zJn prog 4 = true:=by kernel_rfl
@[go_sem] theorem ty_5:tyI prog 5 = some (false,1):=by kernel_rfl
@[go_sem] theorem vZ4:intK prog 5 = some .u8:=by kernel_rfl
@[go_sem] theorem ty_9:tyI prog 9 = some (false,1):=by kernel_rfl
@[go_sem] theorem kQm:lenI prog 9 = some .str:=by kernel_rfl
@[go_sem] theorem kQb:strT prog 9 = true:=by kernel_rfl
@[go_sem] theorem kQa:tyI prog 22 = some (false,1):=by kernel_rfl
@[go_sem] theorem uGa:lenI prog 22 = some .sl:=by kernel_rfl
@[go_sem] theorem kQg:slI prog 22 = some (27,true,4,72):=by kernel_rfl
@[go_sem] theorem kQ9:tyI prog 24 = some (true,2):=by kernel_rfl
@[go_sem] theorem vV1:fldI prog 24 0 = some (0,false,1):=by kernel_rfl
@[go_sem] theorem vV0:fldI prog 24 1 = some (1,false,1):=by kernel_rfl
@[go_sem] theorem uZj:yXq prog 24 = true:=by kernel_rfl
@[go_sem] theorem vW2:yJm prog 24 = some (.agg [.sl ⟨true,.nil,0⟩ [],.sl ⟨true,.nil,0⟩ []]):=by kernel_rfl
@[go_sem] theorem kQ8:tyI prog 25 = some (false,1):=by kernel_rfl
@[go_sem] theorem uG9:lenI prog 25 = some .sl:=by kernel_rfl
@[go_sem] theorem kQf:slI prog 25 = some (34,true,3,48):=by kernel_rfl
@[go_sem] theorem kQ7:tyI prog 27 = some (true,4):=by kernel_rfl
@[go_sem] theorem vKz:fldI prog 27 0 = some (0,false,1):=by kernel_rfl
@[go_sem] theorem vKy:fldI prog 27 1 = some (1,false,1):=by kernel_rfl
@[go_sem] theorem vKx:fldI prog 27 2 = some (2,false,1):=by kernel_rfl
@[go_sem] theorem vKw:fldI prog 27 3 = some (3,false,1):=by kernel_rfl
@[go_sem] theorem uZi:yXq prog 27 = true:=by kernel_rfl
@[go_sem] theorem vW1:yJm prog 27 = some (.agg [.raw (.int .u8 0),.raw (.string ⟨#[]⟩),.sl ⟨true,.nil,0⟩ [],.sl ⟨true,.nil,0⟩ []]):=by kernel_rfl
@[go_sem] theorem kQ6:tyI prog 34 = some (true,3):=by kernel_rfl
@[go_sem] theorem vKv:fldI prog 34 0 = some (0,false,1):=by kernel_rfl
@[go_sem] theorem vKu:fldI prog 34 1 = some (1,false,1):=by kernel_rfl
@[go_sem] theorem vKt:fldI prog 34 2 = some (2,false,1):=by kernel_rfl
@[go_sem] theorem uZh:yXq prog 34 = true:=by kernel_rfl
@[go_sem] theorem vW0:yJm prog 34 = some (.agg [.raw (.bool false),.raw (.string ⟨#[]⟩),.sl ⟨true,.nil,0⟩ []]):=by kernel_rfl
@[go_sem] theorem kQ5:tyI prog 35 = some (false,1):=by kernel_rfl
@[go_sem] theorem uG8:lenI prog 35 = some .sl:=by kernel_rfl
@[go_sem] theorem kQe:slI prog 35 = some (37,true,12,216):=by kernel_rfl
@[go_sem] theorem kQ4:tyI prog 37 = some (true,12):=by kernel_rfl
@[go_sem] theorem vKs:fldI prog 37 0 = some (0,false,1):=by kernel_rfl
@[go_sem] theorem vKr:fldI prog 37 1 = some (1,true,2):=by kernel_rfl
@[go_sem] theorem vKq:fldI prog 37 2 = some (3,true,4):=by kernel_rfl
@[go_sem] theorem vKp:fldI prog 37 3 = some (7,true,3):=by kernel_rfl
@[go_sem] theorem vKo:fldI prog 37 4 = some (10,false,1):=by kernel_rfl
@[go_sem] theorem vKn:fldI prog 37 5 = some (11,false,1):=by kernel_rfl
@[go_sem] theorem uZg:yXq prog 37 = true:=by kernel_rfl
@[go_sem] theorem vVz:yJm prog 37 = some (.agg [.raw (.int .u8 0),.sl ⟨true,.nil,0⟩ [],.sl ⟨true,.nil,0⟩ [],.raw (.int .u8 0),.raw (.string ⟨#[]⟩),.sl ⟨true,.nil,0⟩ [],.sl ⟨true,.nil,0⟩ [],.raw (.bool false),.raw (.string ⟨#[]⟩),.sl ⟨true,.nil,0⟩ [],.raw (.string ⟨#[]⟩),.sl ⟨true,.nil,0⟩ []]):=by kernel_rfl
@[go_sem] theorem uG7:lenI prog 46 = some .sl:=by kernel_rfl
@[go_sem] theorem kQd:slI prog 46 = some (24,true,2,48):=by kernel_rfl
@[go_sem] theorem kQ3:tyI prog 50 = some (false,1):=by kernel_rfl
@[go_sem] theorem uG6:lenI prog 50 = some .sl:=by kernel_rfl
@[go_sem] theorem kQc:slI prog 50 = some (3,false,1,8):=by kernel_rfl
@[go_sem] theorem vVy:yJm prog 50 = some (.sl ⟨true,.nil,0⟩ []):=by kernel_rfl
@[go_sem] theorem kQ2:tyI prog 51 = some (false,1):=by kernel_rfl
@[go_sem] theorem vVx:yJm prog 51 = some (.raw (.int .i64 0)):=by kernel_rfl
@[go_sem] theorem kQ1:tyI prog 90 = some (false,1):=by kernel_rfl
@[go_sem] theorem kQ0:tyI prog 95 = some (false,1):=by kernel_rfl
@[go_sem] theorem uUz:tyI prog 99 = some (false,1):=by kernel_rfl
@[go_sem] theorem uZ9:lenI prog 104 = some .sl:=by kernel_rfl
@[go_sem] theorem uWh:slI prog 104 = some (9,false,1,16):=by kernel_rfl
@[go_sem] theorem uW9:tyI prog 121 = some (false,1):=by kernel_rfl
@[go_sem] theorem uW8:tyI prog 123 = some (true,5):=by kernel_rfl
@[go_sem] theorem vX5:fldI prog 123 0 = some (0,false,1):=by kernel_rfl
@[go_sem] theorem vX4:fldI prog 123 1 = some (1,false,1):=by kernel_rfl
@[go_sem] theorem vX3:fldI prog 123 2 = some (2,false,1):=by kernel_rfl
@[go_sem] theorem vX2:fldI prog 123 3 = some (3,false,1):=by kernel_rfl
@[go_sem] theorem vX1:fldI prog 123 4 = some (4,false,1):=by kernel_rfl
@[go_sem] theorem vKm:yXq prog 123 = true:=by kernel_rfl
@[go_sem] theorem vJf:yJm prog 123 = some (.agg [.raw (.bool false),.raw (.bool false),.raw (.int .u8 0),.raw (.int .u8 0),.raw .nilFunc]):=by kernel_rfl
@[go_sem] theorem uZ1:mapI prog 125 = some (.int .u8,.agg [.raw (.bool false),.raw (.bool false),.raw (.int .u8 0),.raw (.int .u8 0),.raw .nilFunc]):=by kernel_rfl
@[go_sem] theorem vX0:fldI prog 136 0 = some (0,false,1):=by kernel_rfl
@[go_sem] theorem vZz:fldI prog 136 1 = some (1,true,3):=by kernel_rfl
@[go_sem] theorem vKl:yXq prog 136 = true:=by kernel_rfl
@[go_sem] theorem vJe:yJm prog 136 = some (.agg [.raw (.string ⟨#[]⟩),.raw (.bool false),.raw (.string ⟨#[]⟩),.sl ⟨true,.nil,0⟩ []]):=by kernel_rfl
@[go_sem] theorem uZ8:lenI prog 137 = some .sl:=by kernel_rfl
@[go_sem] theorem uWg:slI prog 137 = some (136,true,4,64):=by kernel_rfl
@[go_sem] theorem uW7:tyI prog 138 = some (false,1):=by kernel_rfl
@[go_sem] theorem uW6:tyI prog 139 = some (false,1):=by kernel_rfl
@[go_sem] theorem vJd:yJm prog 139 = some (.raw .nilFunc):=by kernel_rfl
@[go_sem] theorem uZ7:lenI prog 171 = some .sl:=by kernel_rfl
@[go_sem] theorem uWf:slI prog 171 = some (22,false,1,24):=by kernel_rfl
@[go_sem] theorem uW5:tyI prog 183 = some (false,1):=by kernel_rfl
@[go_sem] theorem uZ0:mapI prog 183 = some (.str,.raw (.bool false)):=by kernel_rfl
@[go_sem] theorem vJc:yJm prog 183 = some (.raw (.map none)):=by kernel_rfl
@[go_sem] theorem uWe:slI prog 186 = some (5,false,1,1):=by kernel_rfl
@[go_sem] theorem uVk:xZ2 prog 186 = true:=by kernel_rfl
@[go_sem] theorem uW4:tyI prog 201 = some (true,3):=by kernel_rfl
@[go_sem] theorem vZy:fldI prog 201 0 = some (0,false,1):=by kernel_rfl
@[go_sem] theorem vZx:fldI prog 201 1 = some (1,false,1):=by kernel_rfl
@[go_sem] theorem vZw:fldI prog 201 2 = some (2,false,1):=by kernel_rfl
@[go_sem] theorem vKk:yXq prog 201 = true:=by kernel_rfl
@[go_sem] theorem vJb:yJm prog 201 = some (.agg [.raw (.bool false),.raw (.int .i64 0),.raw (.int .i64 0)]):=by kernel_rfl
@[go_sem] theorem uW3:tyI prog 212 = some (true,4):=by kernel_rfl
@[go_sem] theorem vZv:fldI prog 212 0 = some (0,false,1):=by kernel_rfl
@[go_sem] theorem vZu:fldI prog 212 1 = some (1,true,3):=by kernel_rfl
@[go_sem] theorem vKj:yXq prog 212 = true:=by kernel_rfl
@[go_sem] theorem vJa:yJm prog 212 = some (.agg [.raw (.string ⟨#[]⟩),.raw (.bool false),.raw (.string ⟨#[]⟩),.sl ⟨true,.nil,0⟩ []]):=by kernel_rfl
@[go_sem] theorem uZ6:lenI prog 213 = some .sl:=by kernel_rfl
@[go_sem] theorem uWd:slI prog 213 = some (212,true,4,64):=by kernel_rfl
@[go_sem] theorem uW2:tyI prog 228 = some (false,1):=by kernel_rfl
@[go_sem] theorem uQz:mapI prog 228 = some (.str,.raw (.int .i64 0)):=by kernel_rfl
@[go_sem] theorem uW1:tyI prog 229 = some (false,1):=by kernel_rfl
@[go_sem] theorem uZ5:lenI prog 229 = some .sl:=by kernel_rfl
@[go_sem] theorem uWc:slI prog 229 = some (232,true,2,32):=by kernel_rfl
@[go_sem] theorem uW0:tyI prog 232 = some (true,2):=by kernel_rfl
@[go_sem] theorem vZt:fldI prog 232 0 = some (0,false,1):=by kernel_rfl
@[go_sem] theorem vZs:fldI prog 232 1 = some (1,false,1):=by kernel_rfl
@[go_sem] theorem vKi:yXq prog 232 = true:=by kernel_rfl
@[go_sem] theorem vJ9:yJm prog 232 = some (.agg [.raw (.string ⟨#[]⟩),.raw (.string ⟨#[]⟩)]):=by kernel_rfl
@[go_sem] theorem uVz:tyI prog 250 = some (true,5):=by kernel_rfl
@[go_sem] theorem vZr:fldI prog 250 0 = some (0,false,1):=by kernel_rfl
@[go_sem] theorem vZq:fldI prog 250 2 = some (2,false,1):=by kernel_rfl
@[go_sem] theorem vZp:fldI prog 250 3 = some (3,false,1):=by kernel_rfl
@[go_sem] theorem vZo:fldI prog 250 4 = some (4,false,1):=by kernel_rfl
@[go_sem] theorem vJ8:yJm prog 250 = some (.agg [.raw (.bool false),.raw (.bool false),.raw (.int .u8 0),.raw (.int .i64 0),.raw (.int .i64 0)]):=by kernel_rfl
@[go_sem] theorem uZ4:lenI prog 251 = some (.arr 17):=by kernel_rfl
@[go_sem] theorem uVl:arrI prog 251 = some (17,true,5):=by kernel_rfl
@[go_sem] theorem uZ3:lenI prog 259 = some .sl:=by kernel_rfl
@[go_sem] theorem uWb:slI prog 259 = some (261,true,7,88):=by kernel_rfl
@[go_sem] theorem uVy:tyI prog 261 = some (true,7):=by kernel_rfl
@[go_sem] theorem vZn:fldI prog 261 0 = some (0,true,4):=by kernel_rfl
@[go_sem] theorem vZm:fldI prog 261 1 = some (4,false,1):=by kernel_rfl
@[go_sem] theorem vZl:fldI prog 261 2 = some (5,false,1):=by kernel_rfl
@[go_sem] theorem vZk:fldI prog 261 3 = some (6,false,1):=by kernel_rfl
@[go_sem] theorem vKh:yXq prog 261 = true:=by kernel_rfl
@[go_sem] theorem vJ7:yJm prog 261 = some (.agg [.raw (.string ⟨#[]⟩),.raw (.bool false),.raw (.string ⟨#[]⟩),.sl ⟨true,.nil,0⟩ [],.raw (.map none),.raw (.int .i64 0),.raw (.int .i64 0)]):=by kernel_rfl
@[go_sem] theorem uZ2:lenI prog 273 = some .sl:=by kernel_rfl
@[go_sem] theorem uWa:slI prog 273 = some (183,false,1,8):=by kernel_rfl
@[go_sem] theorem kQl:f3.results.toList = [.tmp 8]:=rfl
@[go_sem] theorem kQp:entI prog 7 = true:=by kernel_rfl
@[go_sem] theorem kQk:f7.results.toList = [.tmp 2]:=rfl
@[go_sem] theorem kQo:entI prog 8 = true:=by kernel_rfl
@[go_sem] theorem kQj:f8.results.toList = [.tmp 4]:=rfl
@[go_sem] theorem kQn:entI prog 9 = true:=by kernel_rfl
@[go_sem] theorem kQi:f9.results.toList = [.tmp 2]:=rfl
@[go_sem] theorem uUx:entI prog 10 = true:=by kernel_rfl
@[go_sem] theorem uG5:f10.results.toList = [.tmp 8]:=rfl
@[go_sem] theorem uUw:entI prog 11 = true:=by kernel_rfl
@[go_sem] theorem uG4:f11.results.toList = [.tmp 0]:=rfl
@[go_sem] theorem uUv:entI prog 16 = true:=by kernel_rfl
@[go_sem] theorem uG3:f16.results.toList = [.cell 4 27]:=rfl
@[go_sem] theorem uUu:entI prog 17 = true:=by kernel_rfl
@[go_sem] theorem uG2:f17.results.toList = [.cell 2 27]:=rfl
@[go_sem] theorem uUt:entI prog 18 = true:=by kernel_rfl
@[go_sem] theorem uG1:f18.results.toList = [.cell 6 27]:=rfl
@[go_sem] theorem uUs:entI prog 24 = true:=by kernel_rfl
@[go_sem] theorem uG0:f24.results.toList = [.cell 4 50,.cell 5 51]:=rfl
@[go_sem] theorem uUr:entI prog 26 = true:=by kernel_rfl
@[go_sem] theorem uYz:f26.results.toList = [.tmp 4]:=rfl
@[go_sem] theorem uUq:entI prog 27 = true:=by kernel_rfl
@[go_sem] theorem uYy:f27.results.toList = [.cell 2 24]:=rfl
@[go_sem] theorem uUp:entI prog 28 = true:=by kernel_rfl
@[go_sem] theorem uYx:f28.results.toList = [.cell 2 24,.tmp 3]:=rfl
@[go_sem] theorem uUo:entI prog 29 = true:=by kernel_rfl
@[go_sem] theorem uYw:f29.results.toList = [.cell 2 24,.tmp 3]:=rfl
@[go_sem] theorem uUn:entI prog 30 = true:=by kernel_rfl
@[go_sem] theorem uYv:f30.results.toList = [.tmp 4]:=rfl
@[go_sem] theorem uUm:entI prog 31 = true:=by kernel_rfl
@[go_sem] theorem uYu:f31.results.toList = [.tmp 4]:=rfl
@[go_sem] theorem uUl:entI prog 32 = true:=by kernel_rfl
@[go_sem] theorem uYt:f32.results.toList = [.tmp 4]:=rfl
@[go_sem] theorem uUk:entI prog 33 = true:=by kernel_rfl
@[go_sem] theorem uYs:f33.results.toList = [.tmp 4]:=rfl
@[go_sem] theorem uUj:entI prog 34 = true:=by kernel_rfl
@[go_sem] theorem uYr:f34.results.toList = [.tmp 4]:=rfl
@[go_sem] theorem uUi:entI prog 35 = true:=by kernel_rfl
@[go_sem] theorem uYq:f35.results.toList = [.tmp 4]:=rfl
@[go_sem] theorem uUh:entI prog 36 = true:=by kernel_rfl
@[go_sem] theorem uYp:f36.results.toList = [.tmp 4]:=rfl
@[go_sem] theorem uUg:entI prog 37 = true:=by kernel_rfl
@[go_sem] theorem uYo:f37.results.toList = [.tmp 4]:=rfl
@[go_sem] theorem uUf:entI prog 38 = true:=by kernel_rfl
@[go_sem] theorem uYn:f38.results.toList = []:=rfl
@[go_sem] theorem uUe:entI prog 39 = true:=by kernel_rfl
@[go_sem] theorem uYm:f39.results.toList = [.tmp 4]:=rfl
@[go_sem] theorem uUd:entI prog 40 = true:=by kernel_rfl
@[go_sem] theorem uYl:f40.results.toList = [.cell 4 24]:=rfl
@[go_sem] theorem uUc:entI prog 41 = true:=by kernel_rfl
@[go_sem] theorem uYk:f41.results.toList = [.tmp 2]:=rfl
@[go_sem] theorem uUb:entI prog 42 = true:=by kernel_rfl
@[go_sem] theorem uYj:f42.results.toList = [.tmp 2]:=rfl
@[go_sem] theorem uUa:entI prog 43 = true:=by kernel_rfl
@[go_sem] theorem uYi:f43.results.toList = [.tmp 2]:=rfl
@[go_sem] theorem uU9:entI prog 44 = true:=by kernel_rfl
@[go_sem] theorem uYh:f44.results.toList = [.cell 2 34]:=rfl
@[go_sem] theorem uU7:entI prog 45 = true:=by kernel_rfl
@[go_sem] theorem uYg:f45.results.toList = [.tmp 12,.tmp 13]:=rfl
@[go_sem] theorem uU6:entI prog 48 = true:=by kernel_rfl
@[go_sem] theorem uYf:f48.results.toList = [.cell 2 27]:=rfl
@[go_sem] theorem uU5:entI prog 49 = true:=by kernel_rfl
@[go_sem] theorem uYe:f49.results.toList = [.cell 2 34]:=rfl
@[go_sem] theorem uU4:entI prog 54 = true:=by kernel_rfl
@[go_sem] theorem uYd:f54.results.toList = [.tmp 4]:=rfl
@[go_sem] theorem uU3:entI prog 55 = true:=by kernel_rfl
@[go_sem] theorem uYc:f55.results.toList = [.tmp 4]:=rfl
@[go_sem] theorem uU2:entI prog 64 = true:=by kernel_rfl
@[go_sem] theorem uYb:f64.results.toList = [.tmp 4]:=rfl
@[go_sem] theorem uU1:entI prog 66 = true:=by kernel_rfl
@[go_sem] theorem uYa:f66.results.toList = [.tmp 2]:=rfl
@[go_sem] theorem uU0:entI prog 70 = true:=by kernel_rfl
@[go_sem] theorem uY9:f70.results.toList = [.tmp 2]:=rfl
@[go_sem] theorem uGz:entI prog 71 = true:=by kernel_rfl
@[go_sem] theorem uY8:f71.results.toList = [.tmp 2]:=rfl
@[go_sem] theorem uGy:entI prog 72 = true:=by kernel_rfl
@[go_sem] theorem uY7:f72.results.toList = [.tmp 4]:=rfl
@[go_sem] theorem uGx:entI prog 73 = true:=by kernel_rfl
@[go_sem] theorem uY6:f73.results.toList = [.tmp 2]:=rfl
@[go_sem] theorem uGw:entI prog 78 = true:=by kernel_rfl
@[go_sem] theorem uY5:f78.results.toList = [.tmp 2]:=rfl
@[go_sem] theorem uGv:entI prog 79 = true:=by kernel_rfl
@[go_sem] theorem uY4:f79.results.toList = [.tmp 2,.tmp 3]:=rfl
@[go_sem] theorem uGu:entI prog 80 = true:=by kernel_rfl
@[go_sem] theorem uY3:f80.results.toList = [.tmp 2,.tmp 3]:=rfl
@[go_sem] theorem uGt:entI prog 81 = true:=by kernel_rfl
@[go_sem] theorem uY2:f81.results.toList = [.tmp 6]:=rfl
@[go_sem] theorem uGs:entI prog 82 = true:=by kernel_rfl
@[go_sem] theorem uY1:f82.results.toList = [.tmp 4]:=rfl
@[go_sem] theorem uGr:entI prog 83 = true:=by kernel_rfl
@[go_sem] theorem uY0:f83.results.toList = [.tmp 4]:=rfl
@[go_sem] theorem uGq:entI prog 84 = true:=by kernel_rfl
@[go_sem] theorem uWz:f84.results.toList = [.tmp 4]:=rfl
@[go_sem] theorem uGp:entI prog 85 = true:=by kernel_rfl
@[go_sem] theorem uWy:f85.results.toList = [.tmp 4]:=rfl
@[go_sem] theorem uGo:entI prog 86 = true:=by kernel_rfl
@[go_sem] theorem uWx:f86.results.toList = [.tmp 3]:=rfl
@[go_sem] theorem uGn:entI prog 87 = true:=by kernel_rfl
@[go_sem] theorem uWw:f87.results.toList = [.tmp 4]:=rfl
@[go_sem] theorem uGm:entI prog 88 = true:=by kernel_rfl
@[go_sem] theorem uWv:f88.results.toList = [.tmp 4]:=rfl
@[go_sem] theorem uGl:entI prog 89 = true:=by kernel_rfl
@[go_sem] theorem uWu:f89.results.toList = []:=rfl
@[go_sem] theorem uGk:entI prog 90 = true:=by kernel_rfl
@[go_sem] theorem uWt:f90.results.toList = [.tmp 4]:=rfl
@[go_sem] theorem uGj:entI prog 91 = true:=by kernel_rfl
@[go_sem] theorem uWs:f91.results.toList = [.tmp 4]:=rfl
@[go_sem] theorem uGi:entI prog 92 = true:=by kernel_rfl
@[go_sem] theorem uWr:f92.results.toList = [.tmp 4]:=rfl
@[go_sem] theorem uGh:entI prog 93 = true:=by kernel_rfl
@[go_sem] theorem uWq:f93.results.toList = [.tmp 2]:=rfl
@[go_sem] theorem uGg:entI prog 94 = true:=by kernel_rfl
@[go_sem] theorem uWp:f94.results.toList = [.tmp 4]:=rfl
@[go_sem] theorem uGf:entI prog 95 = true:=by kernel_rfl
@[go_sem] theorem uWo:f95.results.toList = [.tmp 2]:=rfl
@[go_sem] theorem uGe:entI prog 96 = true:=by kernel_rfl
@[go_sem] theorem uWn:f96.results.toList = [.tmp 4]:=rfl
@[go_sem] theorem uGd:entI prog 97 = true:=by kernel_rfl
@[go_sem] theorem uWm:f97.results.toList = [.tmp 12,.tmp 13]:=rfl
@[go_sem] theorem uGc:entI prog 98 = true:=by kernel_rfl
@[go_sem] theorem uWl:f98.results.toList = [.tmp 2]:=rfl
@[go_sem] theorem uVi:entI prog 101 = true:=by kernel_rfl
@[go_sem] theorem uQo:f101.results.toList = [.tmp 2]:=rfl
@[go_sem] theorem uVh:entI prog 102 = true:=by kernel_rfl
@[go_sem] theorem uQn:f102.results.toList = [.tmp 2]:=rfl
@[go_sem] theorem uVg:entI prog 103 = true:=by kernel_rfl
@[go_sem] theorem uQm:f103.results.toList = [.tmp 10,.tmp 11]:=rfl
@[go_sem] theorem uVf:entI prog 106 = true:=by kernel_rfl
@[go_sem] theorem uQl:f106.results.toList = [.tmp 4]:=rfl
@[go_sem] theorem uVe:entI prog 107 = true:=by kernel_rfl
@[go_sem] theorem uQk:f107.results.toList = [.tmp 4]:=rfl
@[go_sem] theorem uVd:entI prog 108 = true:=by kernel_rfl
@[go_sem] theorem uQj:f108.results.toList = [.tmp 4]:=rfl
@[go_sem] theorem uVc:entI prog 110 = true:=by kernel_rfl
@[go_sem] theorem uQi:f110.results.toList = [.tmp 2]:=rfl
@[go_sem] theorem uVb:entI prog 111 = true:=by kernel_rfl
@[go_sem] theorem uQh:f111.results.toList = [.tmp 4]:=rfl
@[go_sem] theorem uVa:entI prog 112 = true:=by kernel_rfl
@[go_sem] theorem uQg:f112.results.toList = [.tmp 4]:=rfl
@[go_sem] theorem uV9:entI prog 113 = true:=by kernel_rfl
@[go_sem] theorem uQf:f113.results.toList = [.tmp 6]:=rfl
@[go_sem] theorem uV8:entI prog 114 = true:=by kernel_rfl
@[go_sem] theorem uQe:f114.results.toList = [.tmp 4]:=rfl
@[go_sem] theorem uQd:f116.results.toList = []:=rfl
@[go_sem] theorem uV7:entI prog 117 = true:=by kernel_rfl
@[go_sem] theorem uQc:f117.results.toList = [.tmp 5]:=rfl
@[go_sem] theorem uV6:entI prog 118 = true:=by kernel_rfl
@[go_sem] theorem uQb:f118.results.toList = [.tmp 2]:=rfl
@[go_sem] theorem uV5:entI prog 121 = true:=by kernel_rfl
@[go_sem] theorem uQa:f121.results.toList = [.tmp 2]:=rfl
@[go_sem] theorem uV4:entI prog 127 = true:=by kernel_rfl
@[go_sem] theorem uQ9:f127.results.toList = [.cell 4 27]:=rfl
@[go_sem] theorem uV3:entI prog 128 = true:=by kernel_rfl
@[go_sem] theorem uQ8:f128.results.toList = [.cell 2 27,.tmp 3]:=rfl
@[go_sem] theorem uV2:entI prog 129 = true:=by kernel_rfl
@[go_sem] theorem uV1:entI prog 130 = true:=by kernel_rfl
@[go_sem] theorem uQ7:f130.results.toList = [.tmp 4]:=rfl
@[go_sem] theorem uV0:entI prog 131 = true:=by kernel_rfl
@[go_sem] theorem uQ6:f131.results.toList = [.tmp 4]:=rfl
@[go_sem] theorem uKz:entI prog 132 = true:=by kernel_rfl
@[go_sem] theorem uQ5:f132.results.toList = [.tmp 4]:=rfl
@[go_sem] theorem uKy:entI prog 133 = true:=by kernel_rfl
@[go_sem] theorem uQ4:f133.results.toList = [.cell 2 27,.tmp 3]:=rfl
@[go_sem] theorem uKx:entI prog 134 = true:=by kernel_rfl
@[go_sem] theorem uQ3:f134.results.toList = [.tmp 4]:=rfl
@[go_sem] theorem uKw:entI prog 135 = true:=by kernel_rfl
@[go_sem] theorem uQ2:f135.results.toList = [.tmp 2]:=rfl
@[go_sem] theorem uKv:entI prog 136 = true:=by kernel_rfl
@[go_sem] theorem uQ1:f136.results.toList = [.tmp 4]:=rfl
@[go_sem] theorem uKu:entI prog 137 = true:=by kernel_rfl
@[go_sem] theorem uQ0:f137.results.toList = [.tmp 4]:=rfl
@[go_sem] theorem uKt:entI prog 138 = true:=by kernel_rfl
@[go_sem] theorem vUz:f138.results.toList = [.tmp 8]:=rfl
@[go_sem] theorem uKs:entI prog 139 = true:=by kernel_rfl
@[go_sem] theorem vUy:f139.results.toList = [.tmp 4]:=rfl
@[go_sem] theorem uKr:entI prog 140 = true:=by kernel_rfl
@[go_sem] theorem vUx:f140.results.toList = []:=rfl
@[go_sem] theorem uKq:entI prog 141 = true:=by kernel_rfl
@[go_sem] theorem vUw:f141.results.toList = [.tmp 4]:=rfl
@[go_sem] theorem uKp:entI prog 142 = true:=by kernel_rfl
@[go_sem] theorem vUv:f142.results.toList = [.cell 2 27]:=rfl
@[go_sem] theorem uKo:entI prog 144 = true:=by kernel_rfl
@[go_sem] theorem vUu:f144.results.toList = [.cell 4 34]:=rfl
@[go_sem] theorem uKn:entI prog 145 = true:=by kernel_rfl
@[go_sem] theorem vUt:f145.results.toList = [.tmp 0]:=rfl
@[go_sem] theorem vUs:f146.results.toList = [.tmp 6]:=rfl
@[go_sem] theorem uKm:entI prog 147 = true:=by kernel_rfl
@[go_sem] theorem vUr:f147.results.toList = [.cell 2 24]:=rfl
@[go_sem] theorem vUq:f148.results.toList = [.tmp 6]:=rfl
@[go_sem] theorem vUp:f149.results.toList = [.tmp 6]:=rfl
@[go_sem] theorem uKl:entI prog 150 = true:=by kernel_rfl
@[go_sem] theorem vUo:f150.results.toList = [.cell 2 24]:=rfl
@[go_sem] theorem vUn:f151.results.toList = [.tmp 6]:=rfl
@[go_sem] theorem uKk:entI prog 152 = true:=by kernel_rfl
@[go_sem] theorem vUm:f152.results.toList = [.tmp 2]:=rfl
@[go_sem] theorem uKj:entI prog 153 = true:=by kernel_rfl
@[go_sem] theorem vUl:f153.results.toList = [.cell 6 27,.tmp 7]:=rfl
@[go_sem] theorem uKi:entI prog 155 = true:=by kernel_rfl
@[go_sem] theorem vUk:f155.results.toList = [.tmp 4]:=rfl
@[go_sem] theorem uKh:entI prog 157 = true:=by kernel_rfl
@[go_sem] theorem vUj:f157.results.toList = [.tmp 4]:=rfl
@[go_sem] theorem uKg:entI prog 158 = true:=by kernel_rfl
@[go_sem] theorem vUi:f158.results.toList = [.tmp 2]:=rfl
@[go_sem] theorem uKf:entI prog 159 = true:=by kernel_rfl
@[go_sem] theorem vUh:f159.results.toList = [.tmp 2]:=rfl
@[go_sem] theorem uKe:entI prog 161 = true:=by kernel_rfl
@[go_sem] theorem vUg:f161.results.toList = [.tmp 2]:=rfl
@[go_sem] theorem uKd:entI prog 163 = true:=by kernel_rfl
@[go_sem] theorem vUf:f163.results.toList = [.tmp 4]:=rfl
@[go_sem] theorem uKc:entI prog 164 = true:=by kernel_rfl
@[go_sem] theorem vUe:f164.results.toList = [.tmp 2]:=rfl
@[go_sem] theorem uKb:entI prog 166 = true:=by kernel_rfl
@[go_sem] theorem vUd:f166.results.toList = [.tmp 4]:=rfl
@[go_sem] theorem uKa:entI prog 168 = true:=by kernel_rfl
@[go_sem] theorem uK9:entI prog 169 = true:=by kernel_rfl
@[go_sem] theorem uK8:entI prog 170 = true:=by kernel_rfl
@[go_sem] theorem vUc:f170.results.toList = [.tmp 2]:=rfl
@[go_sem] theorem uK7:entI prog 171 = true:=by kernel_rfl
@[go_sem] theorem vUb:f171.results.toList = [.tmp 2]:=rfl
@[go_sem] theorem uK6:entI prog 173 = true:=by kernel_rfl
@[go_sem] theorem vUa:f173.results.toList = [.tmp 4]:=rfl
@[go_sem] theorem uK5:entI prog 174 = true:=by kernel_rfl
@[go_sem] theorem vU9:f174.results.toList = [.cell 6 27]:=rfl
@[go_sem] theorem uK4:entI prog 177 = true:=by kernel_rfl
@[go_sem] theorem vU8:f177.results.toList = [.tmp 4]:=rfl
@[go_sem] theorem uK3:entI prog 178 = true:=by kernel_rfl
@[go_sem] theorem vU7:f178.results.toList = [.tmp 4]:=rfl
@[go_sem] theorem uK2:entI prog 179 = true:=by kernel_rfl
@[go_sem] theorem vU6:f179.results.toList = [.tmp 6]:=rfl
@[go_sem] theorem uK1:entI prog 180 = true:=by kernel_rfl
@[go_sem] theorem vU5:f180.results.toList = [.tmp 4]:=rfl
@[go_sem] theorem uK0:entI prog 181 = true:=by kernel_rfl
@[go_sem] theorem vU4:f181.results.toList = [.tmp 6]:=rfl
@[go_sem] theorem uJz:entI prog 182 = true:=by kernel_rfl
@[go_sem] theorem vU3:f182.results.toList = [.cell 8 27]:=rfl
@[go_sem] theorem uJy:entI prog 183 = true:=by kernel_rfl
@[go_sem] theorem vU2:f183.results.toList = [.tmp 2]:=rfl
@[go_sem] theorem uJx:entI prog 184 = true:=by kernel_rfl
@[go_sem] theorem vU1:f184.results.toList = [.tmp 4]:=rfl
@[go_sem] theorem uJw:entI prog 185 = true:=by kernel_rfl
@[go_sem] theorem vU0:f185.results.toList = [.tmp 4]:=rfl
@[go_sem] theorem uJv:entI prog 186 = true:=by kernel_rfl
@[go_sem] theorem vGz:f186.results.toList = [.tmp 6]:=rfl
@[go_sem] theorem uJu:entI prog 187 = true:=by kernel_rfl
@[go_sem] theorem vGy:f187.results.toList = [.tmp 6]:=rfl
@[go_sem] theorem uJt:entI prog 188 = true:=by kernel_rfl
@[go_sem] theorem vGx:f188.results.toList = [.tmp 8]:=rfl
@[go_sem] theorem uJs:entI prog 189 = true:=by kernel_rfl
@[go_sem] theorem vGw:f189.results.toList = [.tmp 2]:=rfl
@[go_sem] theorem uJr:entI prog 190 = true:=by kernel_rfl
@[go_sem] theorem vGv:f190.results.toList = []:=rfl
@[go_sem] theorem uJq:entI prog 191 = true:=by kernel_rfl
@[go_sem] theorem vGu:f191.results.toList = [.tmp 3]:=rfl
@[go_sem] theorem uJp:entI prog 192 = true:=by kernel_rfl
@[go_sem] theorem vGt:f192.results.toList = [.tmp 4]:=rfl
@[go_sem] theorem uJo:entI prog 193 = true:=by kernel_rfl
@[go_sem] theorem vGs:f193.results.toList = [.tmp 4]:=rfl
@[go_sem] theorem uJn:entI prog 194 = true:=by kernel_rfl
@[go_sem] theorem vGr:f194.results.toList = [.cell 2 34]:=rfl
@[go_sem] theorem uJm:entI prog 195 = true:=by kernel_rfl
@[go_sem] theorem vGq:f195.results.toList = [.tmp 4]:=rfl
@[go_sem] theorem vGp:f196.results.toList = [.tmp 6]:=rfl
@[go_sem] theorem vGo:f197.results.toList = [.tmp 6]:=rfl
@[go_sem] theorem vGn:f198.results.toList = [.tmp 6]:=rfl
@[go_sem] theorem vGm:f199.results.toList = [.tmp 6]:=rfl
@[go_sem] theorem vGl:f200.results.toList = [.tmp 6]:=rfl
@[go_sem] theorem vGk:f201.results.toList = [.tmp 6]:=rfl
@[go_sem] theorem vGj:f202.results.toList = [.tmp 6]:=rfl
@[go_sem] theorem vGi:f203.results.toList = [.tmp 6]:=rfl
@[go_sem] theorem vGh:f204.results.toList = [.tmp 6]:=rfl
@[go_sem] theorem vGg:f205.results.toList = [.tmp 6]:=rfl
@[go_sem] theorem vGf:f206.results.toList = [.tmp 6]:=rfl
@[go_sem] theorem uJl:entI prog 207 = true:=by kernel_rfl
@[go_sem] theorem vGe:f207.results.toList = [.cell 4 27]:=rfl
@[go_sem] theorem vGd:f208.results.toList = [.tmp 6]:=rfl
@[go_sem] theorem vGc:f209.results.toList = [.tmp 6]:=rfl
@[go_sem] theorem uJk:entI prog 210 = true:=by kernel_rfl
@[go_sem] theorem vGb:f210.results.toList = [.tmp 6]:=rfl
@[go_sem] theorem uJj:entI prog 211 = true:=by kernel_rfl
@[go_sem] theorem vGa:f211.results.toList = [.cell 4 27,.tmp 5]:=rfl
@[go_sem] theorem uJi:entI prog 212 = true:=by kernel_rfl
@[go_sem] theorem vG9:f212.results.toList = [.tmp 4]:=rfl
@[go_sem] theorem uJh:entI prog 213 = true:=by kernel_rfl
@[go_sem] theorem vG8:f213.results.toList = [.tmp 4]:=rfl
@[go_sem] theorem uJg:entI prog 214 = true:=by kernel_rfl
@[go_sem] theorem vG7:f214.results.toList = [.tmp 2]:=rfl
@[go_sem] theorem uJf:entI prog 215 = true:=by kernel_rfl
@[go_sem] theorem vG6:f215.results.toList = [.tmp 2]:=rfl
@[go_sem] theorem uJe:entI prog 216 = true:=by kernel_rfl
@[go_sem] theorem vG5:f216.results.toList = [.cell 4 34]:=rfl
@[go_sem] theorem uJd:entI prog 217 = true:=by kernel_rfl
@[go_sem] theorem vG4:f217.results.toList = [.tmp 4]:=rfl
@[go_sem] theorem uJc:entI prog 218 = true:=by kernel_rfl
@[go_sem] theorem vG3:f218.results.toList = [.tmp 2]:=rfl
@[go_sem] theorem uJb:entI prog 219 = true:=by kernel_rfl
@[go_sem] theorem vG2:f219.results.toList = [.tmp 4]:=rfl
@[go_sem] theorem uJa:entI prog 220 = true:=by kernel_rfl
@[go_sem] theorem vG1:f220.results.toList = [.tmp 2]:=rfl
@[go_sem] theorem vG0:f221.results.toList = []:=rfl
@[go_sem] theorem uJ9:entI prog 222 = true:=by kernel_rfl
@[go_sem] theorem vYz:f222.results.toList = [.tmp 4]:=rfl
@[go_sem] theorem uJ8:entI prog 226 = true:=by kernel_rfl
@[go_sem] theorem vYy:f226.results.toList = [.tmp 4]:=rfl
@[go_sem] theorem uJ7:entI prog 230 = true:=by kernel_rfl
@[go_sem] theorem vYx:f230.results.toList = []:=rfl
@[go_sem] theorem uJ6:entI prog 231 = true:=by kernel_rfl
@[go_sem] theorem vYw:f231.results.toList = [.tmp 6]:=rfl
@[go_sem] theorem uJ5:entI prog 232 = true:=by kernel_rfl
@[go_sem] theorem vYv:f232.results.toList = [.cell 4 34]:=rfl
@[go_sem] theorem uJ4:entI prog 233 = true:=by kernel_rfl
@[go_sem] theorem vYu:f233.results.toList = [.cell 3 34,.tmp 4]:=rfl
@[go_sem] theorem uJ3:entI prog 234 = true:=by kernel_rfl
@[go_sem] theorem vYt:f234.results.toList = [.tmp 2]:=rfl
@[go_sem] theorem uJ2:entI prog 235 = true:=by kernel_rfl
@[go_sem] theorem vYs:f235.results.toList = [.tmp 2]:=rfl
@[go_sem] theorem uJ1:entI prog 246 = true:=by kernel_rfl
@[go_sem] theorem vYr:f246.results.toList = [.tmp 2]:=rfl
@[go_sem] theorem uJ0:entI prog 247 = true:=by kernel_rfl
@[go_sem] theorem uXz:entI prog 248 = true:=by kernel_rfl
@[go_sem] theorem vYq:f248.results.toList = [.tmp 4]:=rfl
@[go_sem] theorem uXy:entI prog 249 = true:=by kernel_rfl
@[go_sem] theorem vYp:f249.results.toList = [.tmp 4]:=rfl
@[go_sem] theorem uXx:entI prog 250 = true:=by kernel_rfl
@[go_sem] theorem vYo:f250.results.toList = [.tmp 4]:=rfl
@[go_sem] theorem uXw:entI prog 252 = true:=by kernel_rfl
@[go_sem] theorem vYn:f252.results.toList = [.tmp 6]:=rfl
@[go_sem] theorem uXv:entI prog 253 = true:=by kernel_rfl
@[go_sem] theorem vYm:f253.results.toList = [.tmp 6]:=rfl
@[go_sem] theorem uXu:entI prog 254 = true:=by kernel_rfl
@[go_sem] theorem vYl:f254.results.toList = [.tmp 4]:=rfl
@[go_sem] theorem uXt:entI prog 255 = true:=by kernel_rfl
@[go_sem] theorem vYk:f255.results.toList = []:=rfl
@[go_sem] theorem uXs:entI prog 256 = true:=by kernel_rfl
@[go_sem] theorem vYj:f256.results.toList = [.tmp 4]:=rfl
@[go_sem] theorem uXr:entI prog 257 = true:=by kernel_rfl
@[go_sem] theorem vYi:f257.results.toList = [.tmp 2]:=rfl
@[go_sem] theorem uXq:entI prog 259 = true:=by kernel_rfl
@[go_sem] theorem vYh:f259.results.toList = [.tmp 2]:=rfl
@[go_sem] theorem uXp:entI prog 260 = true:=by kernel_rfl
@[go_sem] theorem vYg:f260.results.toList = [.cell 2 261]:=rfl
@[go_sem] theorem uXo:entI prog 261 = true:=by kernel_rfl
@[go_sem] theorem vYf:f261.results.toList = [.tmp 6,.tmp 7]:=rfl
@[go_sem] theorem uXn:entI prog 262 = true:=by kernel_rfl
@[go_sem] theorem vYe:f262.results.toList = [.cell 4 27]:=rfl
@[go_sem] theorem uXm:entI prog 263 = true:=by kernel_rfl
@[go_sem] theorem vYd:f263.results.toList = [.tmp 2]:=rfl
@[go_sem] theorem uXl:entI prog 265 = true:=by kernel_rfl
@[go_sem] theorem vYc:f265.results.toList = [.tmp 2]:=rfl
@[go_sem] theorem uXk:entI prog 269 = true:=by kernel_rfl
@[go_sem] theorem vYb:f269.results.toList = [.tmp 2]:=rfl
@[go_sem] theorem uXj:entI prog 272 = true:=by kernel_rfl
@[go_sem] theorem vYa:f272.results.toList = [.tmp 4]:=rfl
@[go_sem] theorem uXi:entI prog 273 = true:=by kernel_rfl
@[go_sem] theorem vY9:f273.results.toList = [.tmp 4]:=rfl
@[go_sem] theorem uXh:entI prog 274 = true:=by kernel_rfl
@[go_sem] theorem vY8:f274.results.toList = []:=rfl
@[go_sem] theorem uXg:entI prog 275 = true:=by kernel_rfl
@[go_sem] theorem vY7:f275.results.toList = [.cell 2 34]:=rfl
@[go_sem] theorem uXf:entI prog 276 = true:=by kernel_rfl
@[go_sem] theorem uXe:entI prog 283 = true:=by kernel_rfl
@[go_sem] theorem vY6:f283.results.toList = [.tmp 2]:=rfl
@[go_sem] theorem uXd:entI prog 285 = true:=by kernel_rfl
@[go_sem] theorem vY5:f285.results.toList = [.tmp 4]:=rfl
@[go_sem] theorem uXc:entI prog 286 = true:=by kernel_rfl
@[go_sem] theorem vY4:f286.results.toList = [.tmp 2]:=rfl
@[go_sem] theorem uXb:entI prog 287 = true:=by kernel_rfl
@[go_sem] theorem vY3:f287.results.toList = [.tmp 2]:=rfl
@[go_sem] theorem uXa:entI prog 289 = true:=by kernel_rfl
@[go_sem] theorem vY2:f289.results.toList = [.tmp 2]:=rfl
@[go_sem] theorem uX9:entI prog 290 = true:=by kernel_rfl
@[go_sem] theorem vY1:f290.results.toList = [.tmp 2]:=rfl
@[go_sem] theorem uX8:entI prog 291 = true:=by kernel_rfl
@[go_sem] theorem vY0:f291.results.toList = [.tmp 2]:=rfl
@[go_sem] theorem uX7:entI prog 292 = true:=by kernel_rfl
@[go_sem] theorem vWz:f292.results.toList = [.tmp 2]:=rfl
@[go_sem] theorem uX6:entI prog 293 = true:=by kernel_rfl
@[go_sem] theorem vWy:f293.results.toList = [.tmp 2]:=rfl
@[go_sem] theorem uX5:entI prog 294 = true:=by kernel_rfl
@[go_sem] theorem vWx:f294.results.toList = [.tmp 6,.tmp 7]:=rfl
@[go_sem] theorem uX4:entI prog 295 = true:=by kernel_rfl
@[go_sem] theorem vWw:f295.results.toList = []:=rfl
@[go_sem] theorem uX3:entI prog 296 = true:=by kernel_rfl
@[go_sem] theorem vWv:f296.results.toList = [.cell 4 34,.tmp 5]:=rfl
@[go_sem] theorem uX2:entI prog 297 = true:=by kernel_rfl
@[go_sem] theorem vWu:f297.results.toList = [.tmp 4,.tmp 5]:=rfl
@[go_sem] theorem uX1:entI prog 309 = true:=by kernel_rfl
@[go_sem] theorem vWt:f309.results.toList = [.cell 2 34,.tmp 3]:=rfl
@[go_sem] theorem uX0:entI prog 312 = true:=by kernel_rfl
@[go_sem] theorem vWs:f312.results.toList = [.tmp 2]:=rfl
@[go_sem] theorem uZz:entI prog 313 = true:=by kernel_rfl
@[go_sem] theorem vWr:f313.results.toList = [.tmp 4]:=rfl
@[go_sem] theorem uZy:entI prog 314 = true:=by kernel_rfl
@[go_sem] theorem vWq:f314.results.toList = [.tmp 2]:=rfl
@[go_sem] theorem uZx:entI prog 316 = true:=by kernel_rfl
@[go_sem] theorem vWp:f316.results.toList = [.tmp 2]:=rfl
@[go_sem] theorem uZw:entI prog 317 = true:=by kernel_rfl
@[go_sem] theorem vWo:f317.results.toList = []:=rfl
@[go_sem] theorem uZv:entI prog 318 = true:=by kernel_rfl
@[go_sem] theorem vWn:f318.results.toList = [.tmp 4]:=rfl
@[go_sem] theorem uZu:entI prog 319 = true:=by kernel_rfl
@[go_sem] theorem vWm:f319.results.toList = [.tmp 2]:=rfl
@[go_sem] theorem uZt:entI prog 333 = true:=by kernel_rfl
@[go_sem] theorem vWl:f333.results.toList = [.tmp 4]:=rfl
end Go.Proofs.Tryz
