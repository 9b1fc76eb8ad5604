/- Tables of the seat, printed by tabs.py: -/
import Derived.Test.YtgiilhcddbhffaaGreatDoorJI
import Derived.Test.YtgiilhcddbhffaaGreatDoorProg
import Derived.KernelRfl
set_option linter.all false
namespace Go.Proofs.Tryz
open Go Go.Iv
@[go_sem] theorem ty_3:tyI prog 3=some (false,1):=by kernel_rfl
@[go_sem] theorem vXn:intK prog 3=some .i64:=by kernel_rfl
@[go_sem] theorem uWo:yJg prog 3=some (.raw (.int .i64 0)):=by kernel_rfl
@[go_sem] theorem ty_4:tyI prog 4=some (false,1):=by kernel_rfl
@[go_sem] theorem kQ7:zJ5 prog 4=true:=by kernel_rfl
@[go_sem] theorem ty_5:tyI prog 5=some (false,1):=by kernel_rfl
@[go_sem] theorem vXm:intK prog 5=some .u8:=by kernel_rfl
@[go_sem] theorem ty_9:tyI prog 9=some (false,1):=by kernel_rfl
@[go_sem] theorem kQx:lenI prog 9=some .str:=by kernel_rfl
@[go_sem] theorem kQl:strT prog 9=true:=by kernel_rfl
@[go_sem] theorem kQk:tyI prog 22=some (false,1):=by kernel_rfl
@[go_sem] theorem uGx:lenI prog 22=some .sl:=by kernel_rfl
@[go_sem] theorem kQr:slI prog 22=some (27,true,4,72):=by kernel_rfl
@[go_sem] theorem kQj:tyI prog 24=some (true,2):=by kernel_rfl
@[go_sem] theorem vWx:fldI prog 24 0=some (0,false,1):=by kernel_rfl
@[go_sem] theorem vWw:fldI prog 24 1=some (1,false,1):=by kernel_rfl
@[go_sem] theorem uXz:yXi prog 24=true:=by kernel_rfl
@[go_sem] theorem vG2:yJg prog 24=some (.agg [.sl ⟨true,.nil,0⟩ [],.sl ⟨true,.nil,0⟩ []]):=by kernel_rfl
@[go_sem] theorem kQi:tyI prog 25=some (false,1):=by kernel_rfl
@[go_sem] theorem uGw:lenI prog 25=some .sl:=by kernel_rfl
@[go_sem] theorem kQq:slI prog 25=some (34,true,3,48):=by kernel_rfl
@[go_sem] theorem kQh:tyI prog 27=some (true,4):=by kernel_rfl
@[go_sem] theorem vWv:fldI prog 27 0=some (0,false,1):=by kernel_rfl
@[go_sem] theorem vWu:fldI prog 27 1=some (1,false,1):=by kernel_rfl
@[go_sem] theorem vWt:fldI prog 27 2=some (2,false,1):=by kernel_rfl
@[go_sem] theorem vWs:fldI prog 27 3=some (3,false,1):=by kernel_rfl
@[go_sem] theorem uXy:yXi prog 27=true:=by kernel_rfl
@[go_sem] theorem vG1:yJg prog 27=some (.agg [.raw (.int .u8 0),.raw (.string ⟨#[]⟩),.sl ⟨true,.nil,0⟩ [],.sl ⟨true,.nil,0⟩ []]):=by kernel_rfl
@[go_sem] theorem kQg:tyI prog 34=some (true,3):=by kernel_rfl
@[go_sem] theorem vWr:fldI prog 34 0=some (0,false,1):=by kernel_rfl
@[go_sem] theorem vWq:fldI prog 34 1=some (1,false,1):=by kernel_rfl
@[go_sem] theorem vWp:fldI prog 34 2=some (2,false,1):=by kernel_rfl
@[go_sem] theorem uXx:yXi prog 34=true:=by kernel_rfl
@[go_sem] theorem vG0:yJg prog 34=some (.agg [.raw (.bool false),.raw (.string ⟨#[]⟩),.sl ⟨true,.nil,0⟩ []]):=by kernel_rfl
@[go_sem] theorem kQf:tyI prog 35=some (false,1):=by kernel_rfl
@[go_sem] theorem uGv:lenI prog 35=some .sl:=by kernel_rfl
@[go_sem] theorem kQp:slI prog 35=some (37,true,12,216):=by kernel_rfl
@[go_sem] theorem kQe:tyI prog 37=some (true,12):=by kernel_rfl
@[go_sem] theorem vWo:fldI prog 37 0=some (0,false,1):=by kernel_rfl
@[go_sem] theorem vWn:fldI prog 37 1=some (1,true,2):=by kernel_rfl
@[go_sem] theorem vWm:fldI prog 37 2=some (3,true,4):=by kernel_rfl
@[go_sem] theorem vWl:fldI prog 37 3=some (7,true,3):=by kernel_rfl
@[go_sem] theorem vWk:fldI prog 37 4=some (10,false,1):=by kernel_rfl
@[go_sem] theorem vWj:fldI prog 37 5=some (11,false,1):=by kernel_rfl
@[go_sem] theorem uXw:yXi prog 37=true:=by kernel_rfl
@[go_sem] theorem vYz:yJg prog 37=some (.agg [.raw (.int .u8 0),.sl ⟨true,.nil,0⟩ [],.sl ⟨true,.nil,0⟩ [],.raw (.int .u8 0),.raw (.string ⟨#[]⟩),.sl ⟨true,.nil,0⟩ [],.sl ⟨true,.nil,0⟩ [],.raw (.bool false),.raw (.string ⟨#[]⟩),.sl ⟨true,.nil,0⟩ [],.raw (.string ⟨#[]⟩),.sl ⟨true,.nil,0⟩ []]):=by kernel_rfl
@[go_sem] theorem uGu:lenI prog 46=some .sl:=by kernel_rfl
@[go_sem] theorem kQo:slI prog 46=some (24,true,2,48):=by kernel_rfl
@[go_sem] theorem kQd:tyI prog 50=some (false,1):=by kernel_rfl
@[go_sem] theorem uGt:lenI prog 50=some .sl:=by kernel_rfl
@[go_sem] theorem kQn:slI prog 50=some (3,false,1,8):=by kernel_rfl
@[go_sem] theorem vYy:yJg prog 50=some (.sl ⟨true,.nil,0⟩ []):=by kernel_rfl
@[go_sem] theorem kQc:tyI prog 51=some (false,1):=by kernel_rfl
@[go_sem] theorem vYx:yJg prog 51=some (.raw (.int .i64 0)):=by kernel_rfl
@[go_sem] theorem kQb:tyI prog 54=some (false,1):=by kernel_rfl
@[go_sem] theorem uGs:lenI prog 54=some .sl:=by kernel_rfl
@[go_sem] theorem kQm:slI prog 54=some (50,false,1,24):=by kernel_rfl
@[go_sem] theorem kQa:tyI prog 90=some (false,1):=by kernel_rfl
@[go_sem] theorem kQ9:tyI prog 95=some (false,1):=by kernel_rfl
@[go_sem] theorem kQ8:tyI prog 99=some (false,1):=by kernel_rfl
@[go_sem] theorem uY9:tyI prog 104=some (false,1):=by kernel_rfl
@[go_sem] theorem uXl:lenI prog 104=some .sl:=by kernel_rfl
@[go_sem] theorem uYh:slI prog 104=some (9,false,1,16):=by kernel_rfl
@[go_sem] theorem uY8:tyI prog 106=some (true,6):=by kernel_rfl
@[go_sem] theorem vJv:fldI prog 106 0=some (0,false,1):=by kernel_rfl
@[go_sem] theorem vJu:fldI prog 106 1=some (1,false,1):=by kernel_rfl
@[go_sem] theorem vJt:fldI prog 106 2=some (2,false,1):=by kernel_rfl
@[go_sem] theorem vJs:fldI prog 106 3=some (3,false,1):=by kernel_rfl
@[go_sem] theorem vJr:fldI prog 106 4=some (4,false,1):=by kernel_rfl
@[go_sem] theorem vJq:fldI prog 106 5=some (5,false,1):=by kernel_rfl
@[go_sem] theorem vWi:yXi prog 106=true:=by kernel_rfl
@[go_sem] theorem vV3:yJg prog 106=some (.agg [.sl ⟨true,.nil,0⟩ [],.raw (.int .i64 0),.sl ⟨true,.nil,0⟩ [],.sl ⟨true,.nil,0⟩ [],.raw (.int .i64 0),.raw (.int .i64 0)]):=by kernel_rfl
@[go_sem] theorem uY7:tyI prog 121=some (false,1):=by kernel_rfl
@[go_sem] theorem uY6:tyI prog 123=some (true,5):=by kernel_rfl
@[go_sem] theorem vJp:fldI prog 123 0=some (0,false,1):=by kernel_rfl
@[go_sem] theorem vJo:fldI prog 123 1=some (1,false,1):=by kernel_rfl
@[go_sem] theorem vJn:fldI prog 123 2=some (2,false,1):=by kernel_rfl
@[go_sem] theorem vJm:fldI prog 123 3=some (3,false,1):=by kernel_rfl
@[go_sem] theorem vJl:fldI prog 123 4=some (4,false,1):=by kernel_rfl
@[go_sem] theorem vWh:yXi prog 123=true:=by kernel_rfl
@[go_sem] theorem vV2:yJg prog 123=some (.agg [.raw (.bool false),.raw (.bool false),.raw (.int .u8 0),.raw (.int .u8 0),.raw .nilFunc]):=by kernel_rfl
@[go_sem] theorem uXd:mapI prog 125=some (.int .u8,.agg [.raw (.bool false),.raw (.bool false),.raw (.int .u8 0),.raw (.int .u8 0),.raw .nilFunc]):=by kernel_rfl
@[go_sem] theorem uY5:tyI prog 138=some (false,1):=by kernel_rfl
@[go_sem] theorem uY4:tyI prog 139=some (false,1):=by kernel_rfl
@[go_sem] theorem vV1:yJg prog 139=some (.raw .nilFunc):=by kernel_rfl
@[go_sem] theorem uY3:tyI prog 141=some (false,1):=by kernel_rfl
@[go_sem] theorem uXk:lenI prog 141=some .sl:=by kernel_rfl
@[go_sem] theorem uYg:slI prog 141=some (147,true,2,24):=by kernel_rfl
@[go_sem] theorem uY2:tyI prog 147=some (true,2):=by kernel_rfl
@[go_sem] theorem vJk:fldI prog 147 0=some (0,false,1):=by kernel_rfl
@[go_sem] theorem vJj:fldI prog 147 1=some (1,false,1):=by kernel_rfl
@[go_sem] theorem vWg:yXi prog 147=true:=by kernel_rfl
@[go_sem] theorem vV0:yJg prog 147=some (.agg [.raw (.string ⟨#[]⟩),.raw (.int .i64 0)]):=by kernel_rfl
@[go_sem] theorem uXj:lenI prog 171=some .sl:=by kernel_rfl
@[go_sem] theorem uYf:slI prog 171=some (22,false,1,24):=by kernel_rfl
@[go_sem] theorem uY1:tyI prog 173=some (false,1):=by kernel_rfl
@[go_sem] theorem uXc:mapI prog 173=some (.sym,.raw (.bool false)):=by kernel_rfl
@[go_sem] theorem vKz:yJg prog 173=some (.raw (.map none)):=by kernel_rfl
@[go_sem] theorem uY0:tyI prog 183=some (false,1):=by kernel_rfl
@[go_sem] theorem uXb:mapI prog 183=some (.str,.raw (.bool false)):=by kernel_rfl
@[go_sem] theorem vKy:yJg prog 183=some (.raw (.map none)):=by kernel_rfl
@[go_sem] theorem uYe:slI prog 186=some (5,false,1,1):=by kernel_rfl
@[go_sem] theorem uWe:xQ8 prog 186=true:=by kernel_rfl
@[go_sem] theorem uWz:tyI prog 201=some (true,3):=by kernel_rfl
@[go_sem] theorem vJi:fldI prog 201 0=some (0,false,1):=by kernel_rfl
@[go_sem] theorem vJh:fldI prog 201 1=some (1,false,1):=by kernel_rfl
@[go_sem] theorem vJg:fldI prog 201 2=some (2,false,1):=by kernel_rfl
@[go_sem] theorem vWf:yXi prog 201=true:=by kernel_rfl
@[go_sem] theorem vKx:yJg prog 201=some (.agg [.raw (.bool false),.raw (.int .i64 0),.raw (.int .i64 0)]):=by kernel_rfl
@[go_sem] theorem uWy:tyI prog 212=some (true,4):=by kernel_rfl
@[go_sem] theorem vJf:fldI prog 212 0=some (0,false,1):=by kernel_rfl
@[go_sem] theorem vJe:fldI prog 212 1=some (1,true,3):=by kernel_rfl
@[go_sem] theorem vWe:yXi prog 212=true:=by kernel_rfl
@[go_sem] theorem vKw:yJg prog 212=some (.agg [.raw (.string ⟨#[]⟩),.raw (.bool false),.raw (.string ⟨#[]⟩),.sl ⟨true,.nil,0⟩ []]):=by kernel_rfl
@[go_sem] theorem uXi:lenI prog 213=some .sl:=by kernel_rfl
@[go_sem] theorem uYd:slI prog 213=some (212,true,4,64):=by kernel_rfl
@[go_sem] theorem uWx:tyI prog 228=some (false,1):=by kernel_rfl
@[go_sem] theorem uXa:mapI prog 228=some (.str,.raw (.int .i64 0)):=by kernel_rfl
@[go_sem] theorem uWw:tyI prog 229=some (false,1):=by kernel_rfl
@[go_sem] theorem uXh:lenI prog 229=some .sl:=by kernel_rfl
@[go_sem] theorem uYc:slI prog 229=some (232,true,2,32):=by kernel_rfl
@[go_sem] theorem uWv:tyI prog 232=some (true,2):=by kernel_rfl
@[go_sem] theorem vJd:fldI prog 232 0=some (0,false,1):=by kernel_rfl
@[go_sem] theorem vJc:fldI prog 232 1=some (1,false,1):=by kernel_rfl
@[go_sem] theorem vWd:yXi prog 232=true:=by kernel_rfl
@[go_sem] theorem vKv:yJg prog 232=some (.agg [.raw (.string ⟨#[]⟩),.raw (.string ⟨#[]⟩)]):=by kernel_rfl
@[go_sem] theorem uWu:tyI prog 250=some (true,5):=by kernel_rfl
@[go_sem] theorem vJb:fldI prog 250 0=some (0,false,1):=by kernel_rfl
@[go_sem] theorem vJa:fldI prog 250 2=some (2,false,1):=by kernel_rfl
@[go_sem] theorem vJ9:fldI prog 250 3=some (3,false,1):=by kernel_rfl
@[go_sem] theorem vJ8:fldI prog 250 4=some (4,false,1):=by kernel_rfl
@[go_sem] theorem vKu:yJg prog 250=some (.agg [.raw (.bool false),.raw (.bool false),.raw (.int .u8 0),.raw (.int .i64 0),.raw (.int .i64 0)]):=by kernel_rfl
@[go_sem] theorem uXg:lenI prog 251=some (.arr 17):=by kernel_rfl
@[go_sem] theorem uWf:arrI prog 251=some (17,true,5):=by kernel_rfl
@[go_sem] theorem uXf:lenI prog 259=some .sl:=by kernel_rfl
@[go_sem] theorem uYb:slI prog 259=some (261,true,7,88):=by kernel_rfl
@[go_sem] theorem uWt:tyI prog 261=some (true,7):=by kernel_rfl
@[go_sem] theorem vJ7:fldI prog 261 0=some (0,true,4):=by kernel_rfl
@[go_sem] theorem vJ6:fldI prog 261 1=some (4,false,1):=by kernel_rfl
@[go_sem] theorem vJ5:fldI prog 261 2=some (5,false,1):=by kernel_rfl
@[go_sem] theorem vJ4:fldI prog 261 3=some (6,false,1):=by kernel_rfl
@[go_sem] theorem vWc:yXi prog 261=true:=by kernel_rfl
@[go_sem] theorem vKt:yJg prog 261=some (.agg [.raw (.string ⟨#[]⟩),.raw (.bool false),.raw (.string ⟨#[]⟩),.sl ⟨true,.nil,0⟩ [],.raw (.map none),.raw (.int .i64 0),.raw (.int .i64 0)]):=by kernel_rfl
@[go_sem] theorem uXe:lenI prog 273=some .sl:=by kernel_rfl
@[go_sem] theorem uYa:slI prog 273=some (183,false,1,8):=by kernel_rfl
@[go_sem] theorem kQw:f6.results.toList=[.tmp 4]:=rfl
@[go_sem] theorem kZ0:entI prog 7=true:=by kernel_rfl
@[go_sem] theorem kQv:f7.results.toList=[.tmp 2]:=rfl
@[go_sem] theorem kQz:entI prog 8=true:=by kernel_rfl
@[go_sem] theorem kQu:f8.results.toList=[.tmp 4]:=rfl
@[go_sem] theorem kQy:entI prog 9=true:=by kernel_rfl
@[go_sem] theorem kQt:f9.results.toList=[.tmp 2]:=rfl
@[go_sem] theorem kQ6:entI prog 11=true:=by kernel_rfl
@[go_sem] theorem uGr:f11.results.toList=[.tmp 0]:=rfl
@[go_sem] theorem kQ5:entI prog 12=true:=by kernel_rfl
@[go_sem] theorem uGq:f12.results.toList=[.tmp 2]:=rfl
@[go_sem] theorem kQ4:entI prog 16=true:=by kernel_rfl
@[go_sem] theorem uGp:f16.results.toList=[.cell 4 27]:=rfl
@[go_sem] theorem kQ3:entI prog 17=true:=by kernel_rfl
@[go_sem] theorem uGo:f17.results.toList=[.cell 2 27]:=rfl
@[go_sem] theorem kQ2:entI prog 18=true:=by kernel_rfl
@[go_sem] theorem uGn:f18.results.toList=[.cell 6 27]:=rfl
@[go_sem] theorem kQ1:entI prog 24=true:=by kernel_rfl
@[go_sem] theorem uGm:f24.results.toList=[.cell 4 50,.cell 5 51]:=rfl
@[go_sem] theorem kQ0:entI prog 25=true:=by kernel_rfl
@[go_sem] theorem uGl:f25.results.toList=[.tmp 6]:=rfl
@[go_sem] theorem uUz:entI prog 26=true:=by kernel_rfl
@[go_sem] theorem uGk:f26.results.toList=[.tmp 4]:=rfl
@[go_sem] theorem uUy:entI prog 28=true:=by kernel_rfl
@[go_sem] theorem uGj:f28.results.toList=[.cell 2 24,.tmp 3]:=rfl
@[go_sem] theorem uUx:entI prog 31=true:=by kernel_rfl
@[go_sem] theorem uGi:f31.results.toList=[.tmp 4]:=rfl
@[go_sem] theorem uUw:entI prog 33=true:=by kernel_rfl
@[go_sem] theorem uGh:f33.results.toList=[.tmp 4]:=rfl
@[go_sem] theorem uUv:entI prog 35=true:=by kernel_rfl
@[go_sem] theorem uGg:f35.results.toList=[.tmp 4]:=rfl
@[go_sem] theorem uUu:entI prog 37=true:=by kernel_rfl
@[go_sem] theorem uGf:f37.results.toList=[.tmp 4]:=rfl
@[go_sem] theorem uUt:entI prog 40=true:=by kernel_rfl
@[go_sem] theorem uGe:f40.results.toList=[.cell 4 24]:=rfl
@[go_sem] theorem uUs:entI prog 41=true:=by kernel_rfl
@[go_sem] theorem uGd:f41.results.toList=[.tmp 2]:=rfl
@[go_sem] theorem uUr:entI prog 42=true:=by kernel_rfl
@[go_sem] theorem uGc:f42.results.toList=[.tmp 2]:=rfl
@[go_sem] theorem uUq:entI prog 43=true:=by kernel_rfl
@[go_sem] theorem uGb:f43.results.toList=[.tmp 2]:=rfl
@[go_sem] theorem uUp:entI prog 44=true:=by kernel_rfl
@[go_sem] theorem uGa:f44.results.toList=[.cell 2 34]:=rfl
@[go_sem] theorem uUo:entI prog 45=true:=by kernel_rfl
@[go_sem] theorem uG9:f45.results.toList=[.tmp 12,.tmp 13]:=rfl
@[go_sem] theorem uUn:entI prog 46=true:=by kernel_rfl
@[go_sem] theorem uG8:f46.results.toList=[.tmp 4]:=rfl
@[go_sem] theorem uUm:entI prog 70=true:=by kernel_rfl
@[go_sem] theorem uG7:f70.results.toList=[.tmp 2]:=rfl
@[go_sem] theorem uUl:entI prog 71=true:=by kernel_rfl
@[go_sem] theorem uG6:f71.results.toList=[.tmp 2]:=rfl
@[go_sem] theorem uUk:entI prog 72=true:=by kernel_rfl
@[go_sem] theorem uG5:f72.results.toList=[.tmp 4]:=rfl
@[go_sem] theorem uUj:entI prog 73=true:=by kernel_rfl
@[go_sem] theorem uG4:f73.results.toList=[.tmp 2]:=rfl
@[go_sem] theorem uUi:entI prog 74=true:=by kernel_rfl
@[go_sem] theorem uG3:f74.results.toList=[.tmp 2]:=rfl
@[go_sem] theorem uUh:entI prog 75=true:=by kernel_rfl
@[go_sem] theorem uG2:f75.results.toList=[]:=rfl
@[go_sem] theorem uUg:entI prog 76=true:=by kernel_rfl
@[go_sem] theorem uG1:f76.results.toList=[.tmp 2]:=rfl
@[go_sem] theorem uUf:entI prog 77=true:=by kernel_rfl
@[go_sem] theorem uG0:f77.results.toList=[.tmp 10]:=rfl
@[go_sem] theorem uUe:entI prog 79=true:=by kernel_rfl
@[go_sem] theorem uYz:f79.results.toList=[.tmp 2,.tmp 3]:=rfl
@[go_sem] theorem uUd:entI prog 82=true:=by kernel_rfl
@[go_sem] theorem uYy:f82.results.toList=[.tmp 4]:=rfl
@[go_sem] theorem uUc:entI prog 83=true:=by kernel_rfl
@[go_sem] theorem uYx:f83.results.toList=[.tmp 4]:=rfl
@[go_sem] theorem uUb:entI prog 85=true:=by kernel_rfl
@[go_sem] theorem uYw:f85.results.toList=[.tmp 4]:=rfl
@[go_sem] theorem uUa:entI prog 86=true:=by kernel_rfl
@[go_sem] theorem uYv:f86.results.toList=[.tmp 3]:=rfl
@[go_sem] theorem uU9:entI prog 87=true:=by kernel_rfl
@[go_sem] theorem uYu:f87.results.toList=[.tmp 4]:=rfl
@[go_sem] theorem uU7:entI prog 88=true:=by kernel_rfl
@[go_sem] theorem uYt:f88.results.toList=[.tmp 4]:=rfl
@[go_sem] theorem uU6:entI prog 91=true:=by kernel_rfl
@[go_sem] theorem uYs:f91.results.toList=[.tmp 4]:=rfl
@[go_sem] theorem uU5:entI prog 92=true:=by kernel_rfl
@[go_sem] theorem uYr:f92.results.toList=[.tmp 4]:=rfl
@[go_sem] theorem uU4:entI prog 93=true:=by kernel_rfl
@[go_sem] theorem uYq:f93.results.toList=[.tmp 2]:=rfl
@[go_sem] theorem uU3:entI prog 94=true:=by kernel_rfl
@[go_sem] theorem uYp:f94.results.toList=[.tmp 4]:=rfl
@[go_sem] theorem uU2:entI prog 95=true:=by kernel_rfl
@[go_sem] theorem uYo:f95.results.toList=[.tmp 2]:=rfl
@[go_sem] theorem uU1:entI prog 96=true:=by kernel_rfl
@[go_sem] theorem uYn:f96.results.toList=[.tmp 4]:=rfl
@[go_sem] theorem uU0:entI prog 97=true:=by kernel_rfl
@[go_sem] theorem uYm:f97.results.toList=[.tmp 12,.tmp 13]:=rfl
@[go_sem] theorem uGz:entI prog 98=true:=by kernel_rfl
@[go_sem] theorem uYl:f98.results.toList=[.tmp 2]:=rfl
@[go_sem] theorem uWc:entI prog 102=true:=by kernel_rfl
@[go_sem] theorem uX0:f102.results.toList=[.tmp 2]:=rfl
@[go_sem] theorem uWb:entI prog 103=true:=by kernel_rfl
@[go_sem] theorem uZz:f103.results.toList=[.tmp 10,.tmp 11]:=rfl
@[go_sem] theorem uWa:entI prog 106=true:=by kernel_rfl
@[go_sem] theorem uZy:f106.results.toList=[.tmp 4]:=rfl
@[go_sem] theorem uW9:entI prog 108=true:=by kernel_rfl
@[go_sem] theorem uZx:f108.results.toList=[.tmp 4]:=rfl
@[go_sem] theorem uZw:f116.results.toList=[]:=rfl
@[go_sem] theorem uW8:entI prog 117=true:=by kernel_rfl
@[go_sem] theorem uZv:f117.results.toList=[.tmp 5]:=rfl
@[go_sem] theorem uW7:entI prog 118=true:=by kernel_rfl
@[go_sem] theorem uZu:f118.results.toList=[.tmp 2]:=rfl
@[go_sem] theorem uW6:entI prog 119=true:=by kernel_rfl
@[go_sem] theorem uZt:f119.results.toList=[.tmp 2]:=rfl
@[go_sem] theorem uW5:entI prog 120=true:=by kernel_rfl
@[go_sem] theorem uZs:f120.results.toList=[.tmp 2]:=rfl
@[go_sem] theorem uW4:entI prog 121=true:=by kernel_rfl
@[go_sem] theorem uZr:f121.results.toList=[.tmp 2]:=rfl
@[go_sem] theorem uW3:entI prog 122=true:=by kernel_rfl
@[go_sem] theorem uZq:f122.results.toList=[]:=rfl
@[go_sem] theorem uW2:entI prog 123=true:=by kernel_rfl
@[go_sem] theorem uZp:f123.results.toList=[.tmp 6]:=rfl
@[go_sem] theorem uW1:entI prog 124=true:=by kernel_rfl
@[go_sem] theorem uZo:f124.results.toList=[.tmp 4]:=rfl
@[go_sem] theorem uW0:entI prog 125=true:=by kernel_rfl
@[go_sem] theorem uZn:f125.results.toList=[.tmp 6]:=rfl
@[go_sem] theorem uVz:entI prog 126=true:=by kernel_rfl
@[go_sem] theorem uZm:f126.results.toList=[.tmp 8]:=rfl
@[go_sem] theorem uVy:entI prog 128=true:=by kernel_rfl
@[go_sem] theorem uZl:f128.results.toList=[.cell 2 27,.tmp 3]:=rfl
@[go_sem] theorem uVx:entI prog 129=true:=by kernel_rfl
@[go_sem] theorem uVw:entI prog 130=true:=by kernel_rfl
@[go_sem] theorem uZk:f130.results.toList=[.tmp 4]:=rfl
@[go_sem] theorem uVv:entI prog 131=true:=by kernel_rfl
@[go_sem] theorem uZj:f131.results.toList=[.tmp 4]:=rfl
@[go_sem] theorem uVu:entI prog 132=true:=by kernel_rfl
@[go_sem] theorem uZi:f132.results.toList=[.tmp 4]:=rfl
@[go_sem] theorem uVt:entI prog 135=true:=by kernel_rfl
@[go_sem] theorem uZh:f135.results.toList=[.tmp 2]:=rfl
@[go_sem] theorem uVs:entI prog 136=true:=by kernel_rfl
@[go_sem] theorem uZg:f136.results.toList=[.tmp 4]:=rfl
@[go_sem] theorem uVr:entI prog 137=true:=by kernel_rfl
@[go_sem] theorem uZf:f137.results.toList=[.tmp 4]:=rfl
@[go_sem] theorem uVq:entI prog 139=true:=by kernel_rfl
@[go_sem] theorem uZe:f139.results.toList=[.tmp 4]:=rfl
@[go_sem] theorem uVp:entI prog 141=true:=by kernel_rfl
@[go_sem] theorem uZd:f141.results.toList=[.tmp 4]:=rfl
@[go_sem] theorem uVo:entI prog 142=true:=by kernel_rfl
@[go_sem] theorem uZc:f142.results.toList=[.cell 2 27]:=rfl
@[go_sem] theorem uVn:entI prog 145=true:=by kernel_rfl
@[go_sem] theorem uZb:f145.results.toList=[.tmp 0]:=rfl
@[go_sem] theorem uZa:f146.results.toList=[.tmp 6]:=rfl
@[go_sem] theorem uVm:entI prog 147=true:=by kernel_rfl
@[go_sem] theorem uZ9:f147.results.toList=[.cell 2 24]:=rfl
@[go_sem] theorem uZ8:f148.results.toList=[.tmp 6]:=rfl
@[go_sem] theorem uZ7:f149.results.toList=[.tmp 6]:=rfl
@[go_sem] theorem uVl:entI prog 150=true:=by kernel_rfl
@[go_sem] theorem uZ6:f150.results.toList=[.cell 2 24]:=rfl
@[go_sem] theorem uZ5:f151.results.toList=[.tmp 6]:=rfl
@[go_sem] theorem uVk:entI prog 152=true:=by kernel_rfl
@[go_sem] theorem uZ4:f152.results.toList=[.tmp 2]:=rfl
@[go_sem] theorem uVj:entI prog 153=true:=by kernel_rfl
@[go_sem] theorem uZ3:f153.results.toList=[.cell 6 27,.tmp 7]:=rfl
@[go_sem] theorem uVi:entI prog 155=true:=by kernel_rfl
@[go_sem] theorem uZ2:f155.results.toList=[.tmp 4]:=rfl
@[go_sem] theorem uVh:entI prog 163=true:=by kernel_rfl
@[go_sem] theorem uZ1:f163.results.toList=[.tmp 4]:=rfl
@[go_sem] theorem uVg:entI prog 164=true:=by kernel_rfl
@[go_sem] theorem uZ0:f164.results.toList=[.tmp 2]:=rfl
@[go_sem] theorem uVf:entI prog 165=true:=by kernel_rfl
@[go_sem] theorem uQz:f165.results.toList=[.tmp 2]:=rfl
@[go_sem] theorem uVe:entI prog 166=true:=by kernel_rfl
@[go_sem] theorem uQy:f166.results.toList=[.tmp 4]:=rfl
@[go_sem] theorem uVd:entI prog 167=true:=by kernel_rfl
@[go_sem] theorem uQx:f167.results.toList=[.tmp 3]:=rfl
@[go_sem] theorem uVc:entI prog 168=true:=by kernel_rfl
@[go_sem] theorem uVb:entI prog 169=true:=by kernel_rfl
@[go_sem] theorem uVa:entI prog 170=true:=by kernel_rfl
@[go_sem] theorem uQw:f170.results.toList=[.tmp 2]:=rfl
@[go_sem] theorem uV9:entI prog 171=true:=by kernel_rfl
@[go_sem] theorem uQv:f171.results.toList=[.tmp 2]:=rfl
@[go_sem] theorem uV8:entI prog 172=true:=by kernel_rfl
@[go_sem] theorem uQu:f172.results.toList=[.tmp 8]:=rfl
@[go_sem] theorem uV7:entI prog 174=true:=by kernel_rfl
@[go_sem] theorem uQt:f174.results.toList=[.cell 6 27]:=rfl
@[go_sem] theorem uV6:entI prog 177=true:=by kernel_rfl
@[go_sem] theorem uQs:f177.results.toList=[.tmp 4]:=rfl
@[go_sem] theorem uV5:entI prog 178=true:=by kernel_rfl
@[go_sem] theorem uQr:f178.results.toList=[.tmp 4]:=rfl
@[go_sem] theorem uV4:entI prog 179=true:=by kernel_rfl
@[go_sem] theorem uQq:f179.results.toList=[.tmp 6]:=rfl
@[go_sem] theorem uV3:entI prog 180=true:=by kernel_rfl
@[go_sem] theorem uQp:f180.results.toList=[.tmp 4]:=rfl
@[go_sem] theorem uV2:entI prog 181=true:=by kernel_rfl
@[go_sem] theorem uQo:f181.results.toList=[.tmp 6]:=rfl
@[go_sem] theorem uV1:entI prog 186=true:=by kernel_rfl
@[go_sem] theorem uQn:f186.results.toList=[.tmp 6]:=rfl
@[go_sem] theorem uV0:entI prog 187=true:=by kernel_rfl
@[go_sem] theorem uQm:f187.results.toList=[.tmp 6]:=rfl
@[go_sem] theorem uKz:entI prog 191=true:=by kernel_rfl
@[go_sem] theorem uQl:f191.results.toList=[.tmp 3]:=rfl
@[go_sem] theorem uKy:entI prog 192=true:=by kernel_rfl
@[go_sem] theorem uQk:f192.results.toList=[.tmp 4]:=rfl
@[go_sem] theorem uKx:entI prog 193=true:=by kernel_rfl
@[go_sem] theorem uQj:f193.results.toList=[.tmp 4]:=rfl
@[go_sem] theorem uKw:entI prog 194=true:=by kernel_rfl
@[go_sem] theorem uQi:f194.results.toList=[.cell 2 34]:=rfl
@[go_sem] theorem uKv:entI prog 195=true:=by kernel_rfl
@[go_sem] theorem uQh:f195.results.toList=[.tmp 4]:=rfl
@[go_sem] theorem uQg:f196.results.toList=[.tmp 6]:=rfl
@[go_sem] theorem uQf:f197.results.toList=[.tmp 6]:=rfl
@[go_sem] theorem uQe:f198.results.toList=[.tmp 6]:=rfl
@[go_sem] theorem uQd:f199.results.toList=[.tmp 6]:=rfl
@[go_sem] theorem uQc:f200.results.toList=[.tmp 6]:=rfl
@[go_sem] theorem uQb:f201.results.toList=[.tmp 6]:=rfl
@[go_sem] theorem uQa:f202.results.toList=[.tmp 6]:=rfl
@[go_sem] theorem uQ9:f203.results.toList=[.tmp 6]:=rfl
@[go_sem] theorem uQ8:f204.results.toList=[.tmp 6]:=rfl
@[go_sem] theorem uQ7:f205.results.toList=[.tmp 6]:=rfl
@[go_sem] theorem uQ6:f206.results.toList=[.tmp 6]:=rfl
@[go_sem] theorem uKu:entI prog 207=true:=by kernel_rfl
@[go_sem] theorem uQ5:f207.results.toList=[.cell 4 27]:=rfl
@[go_sem] theorem uQ4:f208.results.toList=[.tmp 6]:=rfl
@[go_sem] theorem uQ3:f209.results.toList=[.tmp 6]:=rfl
@[go_sem] theorem uKt:entI prog 210=true:=by kernel_rfl
@[go_sem] theorem uQ2:f210.results.toList=[.tmp 6]:=rfl
@[go_sem] theorem uKs:entI prog 211=true:=by kernel_rfl
@[go_sem] theorem uQ1:f211.results.toList=[.cell 4 27,.tmp 5]:=rfl
@[go_sem] theorem uKr:entI prog 221=true:=by kernel_rfl
@[go_sem] theorem uQ0:f221.results.toList=[]:=rfl
@[go_sem] theorem uKq:entI prog 222=true:=by kernel_rfl
@[go_sem] theorem vUz:f222.results.toList=[.tmp 4]:=rfl
@[go_sem] theorem uKp:entI prog 223=true:=by kernel_rfl
@[go_sem] theorem vUy:f223.results.toList=[.tmp 4]:=rfl
@[go_sem] theorem uKo:entI prog 224=true:=by kernel_rfl
@[go_sem] theorem vUx:f224.results.toList=[.tmp 2]:=rfl
@[go_sem] theorem vUw:f225.results.toList=[.tmp 4]:=rfl
@[go_sem] theorem uKn:entI prog 226=true:=by kernel_rfl
@[go_sem] theorem vUv:f226.results.toList=[.tmp 4]:=rfl
@[go_sem] theorem uKm:entI prog 230=true:=by kernel_rfl
@[go_sem] theorem vUu:f230.results.toList=[]:=rfl
@[go_sem] theorem uKl:entI prog 231=true:=by kernel_rfl
@[go_sem] theorem vUt:f231.results.toList=[.tmp 6]:=rfl
@[go_sem] theorem uKk:entI prog 232=true:=by kernel_rfl
@[go_sem] theorem vUs:f232.results.toList=[.cell 4 34]:=rfl
@[go_sem] theorem uKj:entI prog 233=true:=by kernel_rfl
@[go_sem] theorem vUr:f233.results.toList=[.cell 3 34,.tmp 4]:=rfl
@[go_sem] theorem uKi:entI prog 234=true:=by kernel_rfl
@[go_sem] theorem vUq:f234.results.toList=[.tmp 2]:=rfl
@[go_sem] theorem uKh:entI prog 235=true:=by kernel_rfl
@[go_sem] theorem vUp:f235.results.toList=[.tmp 2]:=rfl
@[go_sem] theorem uKg:entI prog 246=true:=by kernel_rfl
@[go_sem] theorem vUo:f246.results.toList=[.tmp 2]:=rfl
@[go_sem] theorem uKf:entI prog 247=true:=by kernel_rfl
@[go_sem] theorem uKe:entI prog 249=true:=by kernel_rfl
@[go_sem] theorem vUn:f249.results.toList=[.tmp 4]:=rfl
@[go_sem] theorem uKd:entI prog 250=true:=by kernel_rfl
@[go_sem] theorem vUm:f250.results.toList=[.tmp 4]:=rfl
@[go_sem] theorem uKc:entI prog 252=true:=by kernel_rfl
@[go_sem] theorem vUl:f252.results.toList=[.tmp 6]:=rfl
@[go_sem] theorem uKb:entI prog 253=true:=by kernel_rfl
@[go_sem] theorem vUk:f253.results.toList=[.tmp 6]:=rfl
@[go_sem] theorem uKa:entI prog 256=true:=by kernel_rfl
@[go_sem] theorem vUj:f256.results.toList=[.tmp 4]:=rfl
@[go_sem] theorem uK9:entI prog 257=true:=by kernel_rfl
@[go_sem] theorem vUi:f257.results.toList=[.tmp 2]:=rfl
@[go_sem] theorem uK8:entI prog 259=true:=by kernel_rfl
@[go_sem] theorem vUh:f259.results.toList=[.tmp 2]:=rfl
@[go_sem] theorem uK7:entI prog 260=true:=by kernel_rfl
@[go_sem] theorem vUg:f260.results.toList=[.cell 2 261]:=rfl
@[go_sem] theorem uK6:entI prog 261=true:=by kernel_rfl
@[go_sem] theorem vUf:f261.results.toList=[.tmp 6,.tmp 7]:=rfl
@[go_sem] theorem uK5:entI prog 262=true:=by kernel_rfl
@[go_sem] theorem vUe:f262.results.toList=[.cell 4 27]:=rfl
@[go_sem] theorem uK4:entI prog 266=true:=by kernel_rfl
@[go_sem] theorem vUd:f266.results.toList=[.tmp 2]:=rfl
@[go_sem] theorem uK3:entI prog 267=true:=by kernel_rfl
@[go_sem] theorem uK2:entI prog 268=true:=by kernel_rfl
@[go_sem] theorem vUc:f268.results.toList=[]:=rfl
@[go_sem] theorem uK1:entI prog 269=true:=by kernel_rfl
@[go_sem] theorem vUb:f269.results.toList=[.tmp 2]:=rfl
@[go_sem] theorem uK0:entI prog 272=true:=by kernel_rfl
@[go_sem] theorem vUa:f272.results.toList=[.tmp 4]:=rfl
@[go_sem] theorem uJz:entI prog 273=true:=by kernel_rfl
@[go_sem] theorem vU9:f273.results.toList=[.tmp 4]:=rfl
@[go_sem] theorem uJy:entI prog 274=true:=by kernel_rfl
@[go_sem] theorem vU8:f274.results.toList=[]:=rfl
@[go_sem] theorem uJx:entI prog 275=true:=by kernel_rfl
@[go_sem] theorem vU7:f275.results.toList=[.cell 2 34]:=rfl
@[go_sem] theorem uJw:entI prog 276=true:=by kernel_rfl
@[go_sem] theorem uJv:entI prog 283=true:=by kernel_rfl
@[go_sem] theorem vU6:f283.results.toList=[.tmp 2]:=rfl
@[go_sem] theorem uJu:entI prog 285=true:=by kernel_rfl
@[go_sem] theorem vU5:f285.results.toList=[.tmp 4]:=rfl
@[go_sem] theorem uJt:entI prog 286=true:=by kernel_rfl
@[go_sem] theorem vU4:f286.results.toList=[.tmp 2]:=rfl
@[go_sem] theorem uJs:entI prog 287=true:=by kernel_rfl
@[go_sem] theorem vU3:f287.results.toList=[.tmp 2]:=rfl
@[go_sem] theorem uJr:entI prog 289=true:=by kernel_rfl
@[go_sem] theorem vU2:f289.results.toList=[.tmp 2]:=rfl
@[go_sem] theorem uJq:entI prog 290=true:=by kernel_rfl
@[go_sem] theorem vU1:f290.results.toList=[.tmp 2]:=rfl
@[go_sem] theorem uJp:entI prog 291=true:=by kernel_rfl
@[go_sem] theorem vU0:f291.results.toList=[.tmp 2]:=rfl
@[go_sem] theorem uJo:entI prog 292=true:=by kernel_rfl
@[go_sem] theorem vGz:f292.results.toList=[.tmp 2]:=rfl
@[go_sem] theorem uJn:entI prog 293=true:=by kernel_rfl
@[go_sem] theorem vGy:f293.results.toList=[.tmp 2]:=rfl
@[go_sem] theorem uJm:entI prog 294=true:=by kernel_rfl
@[go_sem] theorem vGx:f294.results.toList=[.tmp 6,.tmp 7]:=rfl
@[go_sem] theorem uJl:entI prog 295=true:=by kernel_rfl
@[go_sem] theorem vGw:f295.results.toList=[]:=rfl
@[go_sem] theorem uJk:entI prog 296=true:=by kernel_rfl
@[go_sem] theorem vGv:f296.results.toList=[.cell 4 34,.tmp 5]:=rfl
@[go_sem] theorem uJj:entI prog 297=true:=by kernel_rfl
@[go_sem] theorem vGu:f297.results.toList=[.tmp 4,.tmp 5]:=rfl
@[go_sem] theorem uJi:entI prog 298=true:=by kernel_rfl
@[go_sem] theorem vGt:f298.results.toList=[.tmp 4]:=rfl
@[go_sem] theorem uJh:entI prog 309=true:=by kernel_rfl
@[go_sem] theorem vGs:f309.results.toList=[.cell 2 34,.tmp 3]:=rfl
@[go_sem] theorem uJg:entI prog 312=true:=by kernel_rfl
@[go_sem] theorem vGr:f312.results.toList=[.tmp 2]:=rfl
@[go_sem] theorem uJf:entI prog 313=true:=by kernel_rfl
@[go_sem] theorem vGq:f313.results.toList=[.tmp 4]:=rfl
@[go_sem] theorem uJe:entI prog 314=true:=by kernel_rfl
@[go_sem] theorem vGp:f314.results.toList=[.tmp 2]:=rfl
@[go_sem] theorem uJd:entI prog 316=true:=by kernel_rfl
@[go_sem] theorem vGo:f316.results.toList=[.tmp 2]:=rfl
@[go_sem] theorem uJc:entI prog 317=true:=by kernel_rfl
@[go_sem] theorem vGn:f317.results.toList=[]:=rfl
@[go_sem] theorem uJb:entI prog 318=true:=by kernel_rfl
@[go_sem] theorem vGm:f318.results.toList=[.tmp 4]:=rfl
@[go_sem] theorem uJa:entI prog 319=true:=by kernel_rfl
@[go_sem] theorem vGl:f319.results.toList=[.tmp 2]:=rfl
@[go_sem] theorem uJ9:entI prog 333=true:=by kernel_rfl
@[go_sem] theorem vGk:f333.results.toList=[.tmp 4]:=rfl
end Go.Proofs.Tryz
