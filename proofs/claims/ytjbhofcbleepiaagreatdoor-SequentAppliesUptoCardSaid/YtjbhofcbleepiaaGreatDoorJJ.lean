/- Tables of the seat, printed by tabs.py: -/
import Derived.Test.YtjbhofcbleepiaaGreatDoorJI
import Derived.Test.YtjbhofcbleepiaaGreatDoorProg
import Derived.KernelRfl
set_option linter.all false
namespace Go.Proofs.Tryz
open Go Go.Iv
@[go_sem] theorem ty_3:tyI prog 3=some (false,1):=by kernel_rfl
@[go_sem] theorem vJg:intK prog 3=some .i64:=by kernel_rfl
@[go_sem] theorem uG8:yJw prog 3=some (.raw (.int .i64 0)):=by kernel_rfl
@[go_sem] theorem ty_4:tyI prog 4=some (false,1):=by kernel_rfl
@[go_sem] theorem kJ0:zKl prog 4=true:=by kernel_rfl
@[go_sem] theorem ty_5:tyI prog 5=some (false,1):=by kernel_rfl
@[go_sem] theorem vJf:intK prog 5=some .u8:=by kernel_rfl
@[go_sem] theorem ty_9:tyI prog 9=some (false,1):=by kernel_rfl
@[go_sem] theorem kJr:lenI prog 9=some .str:=by kernel_rfl
@[go_sem] theorem kJf:strT prog 9=true:=by kernel_rfl
@[go_sem] theorem kJe:tyI prog 22=some (false,1):=by kernel_rfl
@[go_sem] theorem kZ3:lenI prog 22=some .sl:=by kernel_rfl
@[go_sem] theorem kJl:slI prog 22=some (27,true,4,72):=by kernel_rfl
@[go_sem] theorem kJd:tyI prog 24=some (true,2):=by kernel_rfl
@[go_sem] theorem vYb:fldI prog 24 0=some (0,false,1):=by kernel_rfl
@[go_sem] theorem vYa:fldI prog 24 1=some (1,false,1):=by kernel_rfl
@[go_sem] theorem uJw:yXt prog 24=true:=by kernel_rfl
@[go_sem] theorem vGd:yJw prog 24=some (.agg [.sl ⟨true,.nil,0⟩ [],.sl ⟨true,.nil,0⟩ []]):=by kernel_rfl
@[go_sem] theorem kJc:tyI prog 25=some (false,1):=by kernel_rfl
@[go_sem] theorem kZ2:lenI prog 25=some .sl:=by kernel_rfl
@[go_sem] theorem kJk:slI prog 25=some (34,true,3,48):=by kernel_rfl
@[go_sem] theorem kJb:tyI prog 27=some (true,4):=by kernel_rfl
@[go_sem] theorem vY9:fldI prog 27 0=some (0,false,1):=by kernel_rfl
@[go_sem] theorem vY8:fldI prog 27 1=some (1,false,1):=by kernel_rfl
@[go_sem] theorem vY7:fldI prog 27 2=some (2,false,1):=by kernel_rfl
@[go_sem] theorem vY6:fldI prog 27 3=some (3,false,1):=by kernel_rfl
@[go_sem] theorem uJv:yXt prog 27=true:=by kernel_rfl
@[go_sem] theorem vGc:yJw prog 27=some (.agg [.raw (.int .u8 0),.raw (.string ⟨#[]⟩),.sl ⟨true,.nil,0⟩ [],.sl ⟨true,.nil,0⟩ []]):=by kernel_rfl
@[go_sem] theorem kJa:tyI prog 34=some (true,3):=by kernel_rfl
@[go_sem] theorem vY5:fldI prog 34 0=some (0,false,1):=by kernel_rfl
@[go_sem] theorem vY4:fldI prog 34 1=some (1,false,1):=by kernel_rfl
@[go_sem] theorem vY3:fldI prog 34 2=some (2,false,1):=by kernel_rfl
@[go_sem] theorem uJu:yXt prog 34=true:=by kernel_rfl
@[go_sem] theorem vGb:yJw prog 34=some (.agg [.raw (.bool false),.raw (.string ⟨#[]⟩),.sl ⟨true,.nil,0⟩ []]):=by kernel_rfl
@[go_sem] theorem kJ9:tyI prog 35=some (false,1):=by kernel_rfl
@[go_sem] theorem kZ1:lenI prog 35=some .sl:=by kernel_rfl
@[go_sem] theorem kJj:slI prog 35=some (37,true,12,216):=by kernel_rfl
@[go_sem] theorem kJ8:tyI prog 37=some (true,12):=by kernel_rfl
@[go_sem] theorem vY2:fldI prog 37 0=some (0,false,1):=by kernel_rfl
@[go_sem] theorem vY1:fldI prog 37 1=some (1,true,2):=by kernel_rfl
@[go_sem] theorem vY0:fldI prog 37 2=some (3,true,4):=by kernel_rfl
@[go_sem] theorem vWz:fldI prog 37 3=some (7,true,3):=by kernel_rfl
@[go_sem] theorem vWy:fldI prog 37 4=some (10,false,1):=by kernel_rfl
@[go_sem] theorem vWx:fldI prog 37 5=some (11,false,1):=by kernel_rfl
@[go_sem] theorem uJt:yXt prog 37=true:=by kernel_rfl
@[go_sem] theorem vGa:yJw prog 37=some (.agg [.raw (.int .u8 0),.sl ⟨true,.nil,0⟩ [],.sl ⟨true,.nil,0⟩ [],.raw (.int .u8 0),.raw (.string ⟨#[]⟩),.sl ⟨true,.nil,0⟩ [],.sl ⟨true,.nil,0⟩ [],.raw (.bool false),.raw (.string ⟨#[]⟩),.sl ⟨true,.nil,0⟩ [],.raw (.string ⟨#[]⟩),.sl ⟨true,.nil,0⟩ []]):=by kernel_rfl
@[go_sem] theorem kZ0:lenI prog 46=some .sl:=by kernel_rfl
@[go_sem] theorem kJi:slI prog 46=some (24,true,2,48):=by kernel_rfl
@[go_sem] theorem kJ7:tyI prog 50=some (false,1):=by kernel_rfl
@[go_sem] theorem kQz:lenI prog 50=some .sl:=by kernel_rfl
@[go_sem] theorem kJh:slI prog 50=some (3,false,1,8):=by kernel_rfl
@[go_sem] theorem vG9:yJw prog 50=some (.sl ⟨true,.nil,0⟩ []):=by kernel_rfl
@[go_sem] theorem kJ6:tyI prog 51=some (false,1):=by kernel_rfl
@[go_sem] theorem vG8:yJw prog 51=some (.raw (.int .i64 0)):=by kernel_rfl
@[go_sem] theorem kJ5:tyI prog 70=some (false,1):=by kernel_rfl
@[go_sem] theorem kQy:lenI prog 70=some .sl:=by kernel_rfl
@[go_sem] theorem kJg:slI prog 70=some (72,true,12,216):=by kernel_rfl
@[go_sem] theorem kJ4:tyI prog 72=some (true,12):=by kernel_rfl
@[go_sem] theorem vWw:fldI prog 72 0=some (0,false,1):=by kernel_rfl
@[go_sem] theorem vWv:fldI prog 72 1=some (1,true,2):=by kernel_rfl
@[go_sem] theorem vWu:fldI prog 72 2=some (3,true,4):=by kernel_rfl
@[go_sem] theorem vWt:fldI prog 72 3=some (7,true,3):=by kernel_rfl
@[go_sem] theorem vWs:fldI prog 72 4=some (10,false,1):=by kernel_rfl
@[go_sem] theorem vWr:fldI prog 72 5=some (11,false,1):=by kernel_rfl
@[go_sem] theorem uJs:yXt prog 72=true:=by kernel_rfl
@[go_sem] theorem vG7:yJw prog 72=some (.agg [.raw (.int .u8 0),.sl ⟨true,.nil,0⟩ [],.sl ⟨true,.nil,0⟩ [],.raw (.int .u8 0),.raw (.string ⟨#[]⟩),.sl ⟨true,.nil,0⟩ [],.sl ⟨true,.nil,0⟩ [],.raw (.bool false),.raw (.string ⟨#[]⟩),.sl ⟨true,.nil,0⟩ [],.raw (.string ⟨#[]⟩),.sl ⟨true,.nil,0⟩ []]):=by kernel_rfl
@[go_sem] theorem kJ3:tyI prog 90=some (false,1):=by kernel_rfl
@[go_sem] theorem kJ2:tyI prog 95=some (false,1):=by kernel_rfl
@[go_sem] theorem kJ1:tyI prog 99=some (false,1):=by kernel_rfl
@[go_sem] theorem uJl:lenI prog 104=some .sl:=by kernel_rfl
@[go_sem] theorem uGy:slI prog 104=some (9,false,1,16):=by kernel_rfl
@[go_sem] theorem uGq:tyI prog 121=some (false,1):=by kernel_rfl
@[go_sem] theorem uGp:tyI prog 123=some (true,5):=by kernel_rfl
@[go_sem] theorem vKf:fldI prog 123 0=some (0,false,1):=by kernel_rfl
@[go_sem] theorem vKe:fldI prog 123 1=some (1,false,1):=by kernel_rfl
@[go_sem] theorem vKd:fldI prog 123 2=some (2,false,1):=by kernel_rfl
@[go_sem] theorem vKc:fldI prog 123 3=some (3,false,1):=by kernel_rfl
@[go_sem] theorem vKb:fldI prog 123 4=some (4,false,1):=by kernel_rfl
@[go_sem] theorem vWq:yXt prog 123=true:=by kernel_rfl
@[go_sem] theorem vVj:yJw prog 123=some (.agg [.raw (.bool false),.raw (.bool false),.raw (.int .u8 0),.raw (.int .u8 0),.raw .nilFunc]):=by kernel_rfl
@[go_sem] theorem uJd:mapI prog 125=some (.int .u8,.agg [.raw (.bool false),.raw (.bool false),.raw (.int .u8 0),.raw (.int .u8 0),.raw .nilFunc]):=by kernel_rfl
@[go_sem] theorem uGo:tyI prog 136=some (true,4):=by kernel_rfl
@[go_sem] theorem vKa:fldI prog 136 0=some (0,false,1):=by kernel_rfl
@[go_sem] theorem vK9:fldI prog 136 1=some (1,true,3):=by kernel_rfl
@[go_sem] theorem vWp:yXt prog 136=true:=by kernel_rfl
@[go_sem] theorem vVi:yJw prog 136=some (.agg [.raw (.string ⟨#[]⟩),.raw (.bool false),.raw (.string ⟨#[]⟩),.sl ⟨true,.nil,0⟩ []]):=by kernel_rfl
@[go_sem] theorem uJk:lenI prog 137=some .sl:=by kernel_rfl
@[go_sem] theorem uGx:slI prog 137=some (136,true,4,64):=by kernel_rfl
@[go_sem] theorem uGn:tyI prog 138=some (false,1):=by kernel_rfl
@[go_sem] theorem uGm:tyI prog 139=some (false,1):=by kernel_rfl
@[go_sem] theorem vVh:yJw prog 139=some (.raw .nilFunc):=by kernel_rfl
@[go_sem] theorem uJj:lenI prog 171=some .sl:=by kernel_rfl
@[go_sem] theorem uGw:slI prog 171=some (22,false,1,24):=by kernel_rfl
@[go_sem] theorem uGl:tyI prog 183=some (false,1):=by kernel_rfl
@[go_sem] theorem uJc:mapI prog 183=some (.str,.raw (.bool false)):=by kernel_rfl
@[go_sem] theorem vVg:yJw prog 183=some (.raw (.map none)):=by kernel_rfl
@[go_sem] theorem uGv:slI prog 186=some (5,false,1,1):=by kernel_rfl
@[go_sem] theorem uYy:xXc prog 186=true:=by kernel_rfl
@[go_sem] theorem uGk:tyI prog 201=some (true,3):=by kernel_rfl
@[go_sem] theorem vK8:fldI prog 201 0=some (0,false,1):=by kernel_rfl
@[go_sem] theorem vK7:fldI prog 201 1=some (1,false,1):=by kernel_rfl
@[go_sem] theorem vK6:fldI prog 201 2=some (2,false,1):=by kernel_rfl
@[go_sem] theorem vWo:yXt prog 201=true:=by kernel_rfl
@[go_sem] theorem vVf:yJw prog 201=some (.agg [.raw (.bool false),.raw (.int .i64 0),.raw (.int .i64 0)]):=by kernel_rfl
@[go_sem] theorem uGj:tyI prog 212=some (true,4):=by kernel_rfl
@[go_sem] theorem vK5:fldI prog 212 0=some (0,false,1):=by kernel_rfl
@[go_sem] theorem vK4:fldI prog 212 1=some (1,true,3):=by kernel_rfl
@[go_sem] theorem vWn:yXt prog 212=true:=by kernel_rfl
@[go_sem] theorem vVe:yJw prog 212=some (.agg [.raw (.string ⟨#[]⟩),.raw (.bool false),.raw (.string ⟨#[]⟩),.sl ⟨true,.nil,0⟩ []]):=by kernel_rfl
@[go_sem] theorem uJi:lenI prog 213=some .sl:=by kernel_rfl
@[go_sem] theorem uGu:slI prog 213=some (212,true,4,64):=by kernel_rfl
@[go_sem] theorem uGi:tyI prog 228=some (false,1):=by kernel_rfl
@[go_sem] theorem uJb:mapI prog 228=some (.str,.raw (.int .i64 0)):=by kernel_rfl
@[go_sem] theorem uGh:tyI prog 229=some (false,1):=by kernel_rfl
@[go_sem] theorem uJh:lenI prog 229=some .sl:=by kernel_rfl
@[go_sem] theorem uGt:slI prog 229=some (232,true,2,32):=by kernel_rfl
@[go_sem] theorem uGg:tyI prog 232=some (true,2):=by kernel_rfl
@[go_sem] theorem vK3:fldI prog 232 0=some (0,false,1):=by kernel_rfl
@[go_sem] theorem vK2:fldI prog 232 1=some (1,false,1):=by kernel_rfl
@[go_sem] theorem vWm:yXt prog 232=true:=by kernel_rfl
@[go_sem] theorem vVd:yJw prog 232=some (.agg [.raw (.string ⟨#[]⟩),.raw (.string ⟨#[]⟩)]):=by kernel_rfl
@[go_sem] theorem uGf:tyI prog 250=some (true,5):=by kernel_rfl
@[go_sem] theorem vK1:fldI prog 250 0=some (0,false,1):=by kernel_rfl
@[go_sem] theorem vK0:fldI prog 250 2=some (2,false,1):=by kernel_rfl
@[go_sem] theorem vJz:fldI prog 250 3=some (3,false,1):=by kernel_rfl
@[go_sem] theorem vJy:fldI prog 250 4=some (4,false,1):=by kernel_rfl
@[go_sem] theorem vVc:yJw prog 250=some (.agg [.raw (.bool false),.raw (.bool false),.raw (.int .u8 0),.raw (.int .i64 0),.raw (.int .i64 0)]):=by kernel_rfl
@[go_sem] theorem uJg:lenI prog 251=some (.arr 17):=by kernel_rfl
@[go_sem] theorem uYz:arrI prog 251=some (17,true,5):=by kernel_rfl
@[go_sem] theorem uJf:lenI prog 259=some .sl:=by kernel_rfl
@[go_sem] theorem uGs:slI prog 259=some (261,true,7,88):=by kernel_rfl
@[go_sem] theorem uGe:tyI prog 261=some (true,7):=by kernel_rfl
@[go_sem] theorem vJx:fldI prog 261 0=some (0,true,4):=by kernel_rfl
@[go_sem] theorem vJw:fldI prog 261 1=some (4,false,1):=by kernel_rfl
@[go_sem] theorem vJv:fldI prog 261 2=some (5,false,1):=by kernel_rfl
@[go_sem] theorem vJu:fldI prog 261 3=some (6,false,1):=by kernel_rfl
@[go_sem] theorem vWl:yXt prog 261=true:=by kernel_rfl
@[go_sem] theorem vVb:yJw prog 261=some (.agg [.raw (.string ⟨#[]⟩),.raw (.bool false),.raw (.string ⟨#[]⟩),.sl ⟨true,.nil,0⟩ [],.raw (.map none),.raw (.int .i64 0),.raw (.int .i64 0)]):=by kernel_rfl
@[go_sem] theorem uJe:lenI prog 273=some .sl:=by kernel_rfl
@[go_sem] theorem uGr:slI prog 273=some (183,false,1,8):=by kernel_rfl
@[go_sem] theorem kJq:f4.results.toList=[.tmp 4]:=rfl
@[go_sem] theorem kJu:entI prog 7=true:=by kernel_rfl
@[go_sem] theorem kJp:f7.results.toList=[.tmp 2]:=rfl
@[go_sem] theorem kJt:entI prog 8=true:=by kernel_rfl
@[go_sem] theorem kJo:f8.results.toList=[.tmp 4]:=rfl
@[go_sem] theorem kJs:entI prog 9=true:=by kernel_rfl
@[go_sem] theorem kJn:f9.results.toList=[.tmp 2]:=rfl
@[go_sem] theorem kXz:entI prog 11=true:=by kernel_rfl
@[go_sem] theorem kQx:f11.results.toList=[.tmp 0]:=rfl
@[go_sem] theorem kXy:entI prog 12=true:=by kernel_rfl
@[go_sem] theorem kQw:f12.results.toList=[.tmp 2]:=rfl
@[go_sem] theorem kXx:entI prog 13=true:=by kernel_rfl
@[go_sem] theorem kQv:f13.results.toList=[.tmp 4]:=rfl
@[go_sem] theorem kXw:entI prog 16=true:=by kernel_rfl
@[go_sem] theorem kQu:f16.results.toList=[.cell 4 27]:=rfl
@[go_sem] theorem kXv:entI prog 17=true:=by kernel_rfl
@[go_sem] theorem kQt:f17.results.toList=[.cell 2 27]:=rfl
@[go_sem] theorem kXu:entI prog 18=true:=by kernel_rfl
@[go_sem] theorem kQs:f18.results.toList=[.cell 6 27]:=rfl
@[go_sem] theorem kXt:entI prog 21=true:=by kernel_rfl
@[go_sem] theorem kQr:f21.results.toList=[.tmp 10,.tmp 11]:=rfl
@[go_sem] theorem kXs:entI prog 22=true:=by kernel_rfl
@[go_sem] theorem kQq:f22.results.toList=[.cell 2 24]:=rfl
@[go_sem] theorem kXr:entI prog 24=true:=by kernel_rfl
@[go_sem] theorem kQp:f24.results.toList=[.cell 4 50,.cell 5 51]:=rfl
@[go_sem] theorem kXq:entI prog 26=true:=by kernel_rfl
@[go_sem] theorem kQo:f26.results.toList=[.tmp 4]:=rfl
@[go_sem] theorem kXp:entI prog 27=true:=by kernel_rfl
@[go_sem] theorem kQn:f27.results.toList=[.cell 2 24]:=rfl
@[go_sem] theorem kXo:entI prog 28=true:=by kernel_rfl
@[go_sem] theorem kQm:f28.results.toList=[.cell 2 24,.tmp 3]:=rfl
@[go_sem] theorem kXn:entI prog 31=true:=by kernel_rfl
@[go_sem] theorem kQl:f31.results.toList=[.tmp 4]:=rfl
@[go_sem] theorem kXm:entI prog 32=true:=by kernel_rfl
@[go_sem] theorem kQk:f32.results.toList=[.tmp 4]:=rfl
@[go_sem] theorem kXl:entI prog 33=true:=by kernel_rfl
@[go_sem] theorem kQj:f33.results.toList=[.tmp 4]:=rfl
@[go_sem] theorem kXk:entI prog 34=true:=by kernel_rfl
@[go_sem] theorem kQi:f34.results.toList=[.tmp 4]:=rfl
@[go_sem] theorem kXj:entI prog 35=true:=by kernel_rfl
@[go_sem] theorem kQh:f35.results.toList=[.tmp 4]:=rfl
@[go_sem] theorem kXi:entI prog 37=true:=by kernel_rfl
@[go_sem] theorem kQg:f37.results.toList=[.tmp 4]:=rfl
@[go_sem] theorem kXh:entI prog 38=true:=by kernel_rfl
@[go_sem] theorem kQf:f38.results.toList=[]:=rfl
@[go_sem] theorem kXg:entI prog 39=true:=by kernel_rfl
@[go_sem] theorem kQe:f39.results.toList=[.tmp 4]:=rfl
@[go_sem] theorem kXf:entI prog 40=true:=by kernel_rfl
@[go_sem] theorem kQd:f40.results.toList=[.cell 4 24]:=rfl
@[go_sem] theorem kXe:entI prog 41=true:=by kernel_rfl
@[go_sem] theorem kQc:f41.results.toList=[.tmp 2]:=rfl
@[go_sem] theorem kXd:entI prog 42=true:=by kernel_rfl
@[go_sem] theorem kQb:f42.results.toList=[.tmp 2]:=rfl
@[go_sem] theorem kXc:entI prog 43=true:=by kernel_rfl
@[go_sem] theorem kQa:f43.results.toList=[.tmp 2]:=rfl
@[go_sem] theorem kXb:entI prog 44=true:=by kernel_rfl
@[go_sem] theorem kQ9:f44.results.toList=[.cell 2 34]:=rfl
@[go_sem] theorem kXa:entI prog 45=true:=by kernel_rfl
@[go_sem] theorem kQ8:f45.results.toList=[.tmp 12,.tmp 13]:=rfl
@[go_sem] theorem kX9:entI prog 46=true:=by kernel_rfl
@[go_sem] theorem kQ7:f46.results.toList=[.tmp 4]:=rfl
@[go_sem] theorem kX8:entI prog 47=true:=by kernel_rfl
@[go_sem] theorem kQ6:f47.results.toList=[.cell 2 72]:=rfl
@[go_sem] theorem kX7:entI prog 48=true:=by kernel_rfl
@[go_sem] theorem kQ5:f48.results.toList=[.cell 2 27]:=rfl
@[go_sem] theorem kX6:entI prog 49=true:=by kernel_rfl
@[go_sem] theorem kQ4:f49.results.toList=[.cell 2 34]:=rfl
@[go_sem] theorem kX5:entI prog 50=true:=by kernel_rfl
@[go_sem] theorem kQ3:f50.results.toList=[.tmp 10,.tmp 11]:=rfl
@[go_sem] theorem kX4:entI prog 51=true:=by kernel_rfl
@[go_sem] theorem kQ2:f51.results.toList=[.tmp 4,.tmp 5]:=rfl
@[go_sem] theorem kX3:entI prog 52=true:=by kernel_rfl
@[go_sem] theorem kQ1:f52.results.toList=[.tmp 4]:=rfl
@[go_sem] theorem kX2:entI prog 53=true:=by kernel_rfl
@[go_sem] theorem kQ0:f53.results.toList=[]:=rfl
@[go_sem] theorem kX1:entI prog 54=true:=by kernel_rfl
@[go_sem] theorem uUz:f54.results.toList=[.tmp 4]:=rfl
@[go_sem] theorem kX0:entI prog 55=true:=by kernel_rfl
@[go_sem] theorem uUy:f55.results.toList=[.tmp 4]:=rfl
@[go_sem] theorem kZz:entI prog 63=true:=by kernel_rfl
@[go_sem] theorem uUx:f63.results.toList=[.tmp 4,.tmp 5,.tmp 6,.tmp 7]:=rfl
@[go_sem] theorem kZy:entI prog 64=true:=by kernel_rfl
@[go_sem] theorem uUw:f64.results.toList=[.tmp 4]:=rfl
@[go_sem] theorem kZx:entI prog 65=true:=by kernel_rfl
@[go_sem] theorem uUv:f65.results.toList=[.cell 4 24]:=rfl
@[go_sem] theorem kZw:entI prog 66=true:=by kernel_rfl
@[go_sem] theorem uUu:f66.results.toList=[.tmp 2]:=rfl
@[go_sem] theorem kZv:entI prog 67=true:=by kernel_rfl
@[go_sem] theorem uUt:f67.results.toList=[.tmp 2]:=rfl
@[go_sem] theorem kZu:entI prog 68=true:=by kernel_rfl
@[go_sem] theorem uUs:f68.results.toList=[.cell 6 27,.tmp 7]:=rfl
@[go_sem] theorem kZt:entI prog 69=true:=by kernel_rfl
@[go_sem] theorem uUr:f69.results.toList=[.tmp 2]:=rfl
@[go_sem] theorem kZs:entI prog 70=true:=by kernel_rfl
@[go_sem] theorem uUq:f70.results.toList=[.tmp 2]:=rfl
@[go_sem] theorem kZr:entI prog 71=true:=by kernel_rfl
@[go_sem] theorem uUp:f71.results.toList=[.tmp 2]:=rfl
@[go_sem] theorem kZq:entI prog 72=true:=by kernel_rfl
@[go_sem] theorem uUo:f72.results.toList=[.tmp 4]:=rfl
@[go_sem] theorem kZp:entI prog 73=true:=by kernel_rfl
@[go_sem] theorem uUn:f73.results.toList=[.tmp 2]:=rfl
@[go_sem] theorem kZo:entI prog 78=true:=by kernel_rfl
@[go_sem] theorem uUm:f78.results.toList=[.tmp 2]:=rfl
@[go_sem] theorem kZn:entI prog 79=true:=by kernel_rfl
@[go_sem] theorem uUl:f79.results.toList=[.tmp 2,.tmp 3]:=rfl
@[go_sem] theorem kZm:entI prog 82=true:=by kernel_rfl
@[go_sem] theorem uUk:f82.results.toList=[.tmp 4]:=rfl
@[go_sem] theorem kZl:entI prog 83=true:=by kernel_rfl
@[go_sem] theorem uUj:f83.results.toList=[.tmp 4]:=rfl
@[go_sem] theorem kZk:entI prog 84=true:=by kernel_rfl
@[go_sem] theorem uUi:f84.results.toList=[.tmp 4]:=rfl
@[go_sem] theorem kZj:entI prog 85=true:=by kernel_rfl
@[go_sem] theorem uUh:f85.results.toList=[.tmp 4]:=rfl
@[go_sem] theorem kZi:entI prog 86=true:=by kernel_rfl
@[go_sem] theorem uUg:f86.results.toList=[.tmp 3]:=rfl
@[go_sem] theorem kZh:entI prog 87=true:=by kernel_rfl
@[go_sem] theorem uUf:f87.results.toList=[.tmp 4]:=rfl
@[go_sem] theorem kZg:entI prog 88=true:=by kernel_rfl
@[go_sem] theorem uUe:f88.results.toList=[.tmp 4]:=rfl
@[go_sem] theorem kZf:entI prog 89=true:=by kernel_rfl
@[go_sem] theorem uUd:f89.results.toList=[]:=rfl
@[go_sem] theorem kZe:entI prog 90=true:=by kernel_rfl
@[go_sem] theorem uUc:f90.results.toList=[.tmp 4]:=rfl
@[go_sem] theorem kZd:entI prog 91=true:=by kernel_rfl
@[go_sem] theorem uUb:f91.results.toList=[.tmp 4]:=rfl
@[go_sem] theorem kZc:entI prog 92=true:=by kernel_rfl
@[go_sem] theorem uUa:f92.results.toList=[.tmp 4]:=rfl
@[go_sem] theorem kZb:entI prog 93=true:=by kernel_rfl
@[go_sem] theorem uU9:f93.results.toList=[.tmp 2]:=rfl
@[go_sem] theorem kZa:entI prog 94=true:=by kernel_rfl
@[go_sem] theorem uU7:f94.results.toList=[.tmp 4]:=rfl
@[go_sem] theorem kZ9:entI prog 95=true:=by kernel_rfl
@[go_sem] theorem uU6:f95.results.toList=[.tmp 2]:=rfl
@[go_sem] theorem kZ8:entI prog 96=true:=by kernel_rfl
@[go_sem] theorem uU5:f96.results.toList=[.tmp 4]:=rfl
@[go_sem] theorem kZ7:entI prog 97=true:=by kernel_rfl
@[go_sem] theorem uU4:f97.results.toList=[.tmp 12,.tmp 13]:=rfl
@[go_sem] theorem kZ6:entI prog 98=true:=by kernel_rfl
@[go_sem] theorem uU3:f98.results.toList=[.tmp 2]:=rfl
@[go_sem] theorem kZ5:entI prog 99=true:=by kernel_rfl
@[go_sem] theorem uU2:f99.results.toList=[.cell 2 27]:=rfl
@[go_sem] theorem uYw:entI prog 100=true:=by kernel_rfl
@[go_sem] theorem uJ1:f100.results.toList=[.cell 2 34]:=rfl
@[go_sem] theorem uYv:entI prog 101=true:=by kernel_rfl
@[go_sem] theorem uJ0:f101.results.toList=[.tmp 2]:=rfl
@[go_sem] theorem uYu:entI prog 102=true:=by kernel_rfl
@[go_sem] theorem uXz:f102.results.toList=[.tmp 2]:=rfl
@[go_sem] theorem uYt:entI prog 103=true:=by kernel_rfl
@[go_sem] theorem uXy:f103.results.toList=[.tmp 10,.tmp 11]:=rfl
@[go_sem] theorem uYs:entI prog 104=true:=by kernel_rfl
@[go_sem] theorem uXx:f104.results.toList=[.tmp 4,.tmp 5]:=rfl
@[go_sem] theorem uYr:entI prog 105=true:=by kernel_rfl
@[go_sem] theorem uXw:f105.results.toList=[.cell 4 24]:=rfl
@[go_sem] theorem uYq:entI prog 106=true:=by kernel_rfl
@[go_sem] theorem uXv:f106.results.toList=[.tmp 4]:=rfl
@[go_sem] theorem uYp:entI prog 107=true:=by kernel_rfl
@[go_sem] theorem uXu:f107.results.toList=[.tmp 4]:=rfl
@[go_sem] theorem uYo:entI prog 108=true:=by kernel_rfl
@[go_sem] theorem uXt:f108.results.toList=[.tmp 4]:=rfl
@[go_sem] theorem uYn:entI prog 110=true:=by kernel_rfl
@[go_sem] theorem uXs:f110.results.toList=[.tmp 2]:=rfl
@[go_sem] theorem uYm:entI prog 111=true:=by kernel_rfl
@[go_sem] theorem uXr:f111.results.toList=[.tmp 4]:=rfl
@[go_sem] theorem uYl:entI prog 112=true:=by kernel_rfl
@[go_sem] theorem uXq:f112.results.toList=[.tmp 4]:=rfl
@[go_sem] theorem uYk:entI prog 113=true:=by kernel_rfl
@[go_sem] theorem uXp:f113.results.toList=[.tmp 6]:=rfl
@[go_sem] theorem uYj:entI prog 114=true:=by kernel_rfl
@[go_sem] theorem uXo:f114.results.toList=[.tmp 4]:=rfl
@[go_sem] theorem uYi:entI prog 115=true:=by kernel_rfl
@[go_sem] theorem uXn:f115.results.toList=[.cell 4 27,.tmp 5]:=rfl
@[go_sem] theorem uXm:f116.results.toList=[]:=rfl
@[go_sem] theorem uYh:entI prog 117=true:=by kernel_rfl
@[go_sem] theorem uXl:f117.results.toList=[.tmp 5]:=rfl
@[go_sem] theorem uYg:entI prog 118=true:=by kernel_rfl
@[go_sem] theorem uXk:f118.results.toList=[.tmp 2]:=rfl
@[go_sem] theorem uYf:entI prog 121=true:=by kernel_rfl
@[go_sem] theorem uXj:f121.results.toList=[.tmp 2]:=rfl
@[go_sem] theorem uYe:entI prog 127=true:=by kernel_rfl
@[go_sem] theorem uXi:f127.results.toList=[.cell 4 27]:=rfl
@[go_sem] theorem uYd:entI prog 128=true:=by kernel_rfl
@[go_sem] theorem uXh:f128.results.toList=[.cell 2 27,.tmp 3]:=rfl
@[go_sem] theorem uYc:entI prog 129=true:=by kernel_rfl
@[go_sem] theorem uYb:entI prog 130=true:=by kernel_rfl
@[go_sem] theorem uXg:f130.results.toList=[.tmp 4]:=rfl
@[go_sem] theorem uYa:entI prog 131=true:=by kernel_rfl
@[go_sem] theorem uXf:f131.results.toList=[.tmp 4]:=rfl
@[go_sem] theorem uY9:entI prog 132=true:=by kernel_rfl
@[go_sem] theorem uXe:f132.results.toList=[.tmp 4]:=rfl
@[go_sem] theorem uY8:entI prog 135=true:=by kernel_rfl
@[go_sem] theorem uXd:f135.results.toList=[.tmp 2]:=rfl
@[go_sem] theorem uY7:entI prog 136=true:=by kernel_rfl
@[go_sem] theorem uXc:f136.results.toList=[.tmp 4]:=rfl
@[go_sem] theorem uY6:entI prog 137=true:=by kernel_rfl
@[go_sem] theorem uXb:f137.results.toList=[.tmp 4]:=rfl
@[go_sem] theorem uY5:entI prog 138=true:=by kernel_rfl
@[go_sem] theorem uXa:f138.results.toList=[.tmp 8]:=rfl
@[go_sem] theorem uY4:entI prog 139=true:=by kernel_rfl
@[go_sem] theorem uX9:f139.results.toList=[.tmp 4]:=rfl
@[go_sem] theorem uY3:entI prog 140=true:=by kernel_rfl
@[go_sem] theorem uX8:f140.results.toList=[]:=rfl
@[go_sem] theorem uY2:entI prog 141=true:=by kernel_rfl
@[go_sem] theorem uX7:f141.results.toList=[.tmp 4]:=rfl
@[go_sem] theorem uY1:entI prog 142=true:=by kernel_rfl
@[go_sem] theorem uX6:f142.results.toList=[.cell 2 27]:=rfl
@[go_sem] theorem uY0:entI prog 143=true:=by kernel_rfl
@[go_sem] theorem uX5:f143.results.toList=[.tmp 2]:=rfl
@[go_sem] theorem uWz:entI prog 144=true:=by kernel_rfl
@[go_sem] theorem uX4:f144.results.toList=[.cell 4 34]:=rfl
@[go_sem] theorem uWy:entI prog 145=true:=by kernel_rfl
@[go_sem] theorem uX3:f145.results.toList=[.tmp 0]:=rfl
@[go_sem] theorem uX2:f146.results.toList=[.tmp 6]:=rfl
@[go_sem] theorem uWx:entI prog 147=true:=by kernel_rfl
@[go_sem] theorem uX1:f147.results.toList=[.cell 2 24]:=rfl
@[go_sem] theorem uX0:f148.results.toList=[.tmp 6]:=rfl
@[go_sem] theorem uZz:f149.results.toList=[.tmp 6]:=rfl
@[go_sem] theorem uWw:entI prog 150=true:=by kernel_rfl
@[go_sem] theorem uZy:f150.results.toList=[.cell 2 24]:=rfl
@[go_sem] theorem uZx:f151.results.toList=[.tmp 6]:=rfl
@[go_sem] theorem uWv:entI prog 152=true:=by kernel_rfl
@[go_sem] theorem uZw:f152.results.toList=[.tmp 2]:=rfl
@[go_sem] theorem uWu:entI prog 153=true:=by kernel_rfl
@[go_sem] theorem uZv:f153.results.toList=[.cell 6 27,.tmp 7]:=rfl
@[go_sem] theorem uWt:entI prog 154=true:=by kernel_rfl
@[go_sem] theorem uZu:f154.results.toList=[.tmp 4]:=rfl
@[go_sem] theorem uWs:entI prog 155=true:=by kernel_rfl
@[go_sem] theorem uZt:f155.results.toList=[.tmp 4]:=rfl
@[go_sem] theorem uWr:entI prog 157=true:=by kernel_rfl
@[go_sem] theorem uZs:f157.results.toList=[.tmp 4]:=rfl
@[go_sem] theorem uWq:entI prog 158=true:=by kernel_rfl
@[go_sem] theorem uZr:f158.results.toList=[.tmp 2]:=rfl
@[go_sem] theorem uWp:entI prog 159=true:=by kernel_rfl
@[go_sem] theorem uZq:f159.results.toList=[.tmp 2]:=rfl
@[go_sem] theorem uWo:entI prog 161=true:=by kernel_rfl
@[go_sem] theorem uZp:f161.results.toList=[.tmp 2]:=rfl
@[go_sem] theorem uWn:entI prog 162=true:=by kernel_rfl
@[go_sem] theorem uZo:f162.results.toList=[.cell 4 27]:=rfl
@[go_sem] theorem uWm:entI prog 163=true:=by kernel_rfl
@[go_sem] theorem uZn:f163.results.toList=[.tmp 4]:=rfl
@[go_sem] theorem uWl:entI prog 164=true:=by kernel_rfl
@[go_sem] theorem uZm:f164.results.toList=[.tmp 2]:=rfl
@[go_sem] theorem uWk:entI prog 166=true:=by kernel_rfl
@[go_sem] theorem uZl:f166.results.toList=[.tmp 4]:=rfl
@[go_sem] theorem uWj:entI prog 168=true:=by kernel_rfl
@[go_sem] theorem uWi:entI prog 169=true:=by kernel_rfl
@[go_sem] theorem uWh:entI prog 170=true:=by kernel_rfl
@[go_sem] theorem uZk:f170.results.toList=[.tmp 2]:=rfl
@[go_sem] theorem uWg:entI prog 171=true:=by kernel_rfl
@[go_sem] theorem uZj:f171.results.toList=[.tmp 2]:=rfl
@[go_sem] theorem uWf:entI prog 173=true:=by kernel_rfl
@[go_sem] theorem uZi:f173.results.toList=[.tmp 4]:=rfl
@[go_sem] theorem uWe:entI prog 174=true:=by kernel_rfl
@[go_sem] theorem uZh:f174.results.toList=[.cell 6 27]:=rfl
@[go_sem] theorem uWd:entI prog 177=true:=by kernel_rfl
@[go_sem] theorem uZg:f177.results.toList=[.tmp 4]:=rfl
@[go_sem] theorem uWc:entI prog 178=true:=by kernel_rfl
@[go_sem] theorem uZf:f178.results.toList=[.tmp 4]:=rfl
@[go_sem] theorem uWb:entI prog 179=true:=by kernel_rfl
@[go_sem] theorem uZe:f179.results.toList=[.tmp 6]:=rfl
@[go_sem] theorem uWa:entI prog 180=true:=by kernel_rfl
@[go_sem] theorem uZd:f180.results.toList=[.tmp 4]:=rfl
@[go_sem] theorem uW9:entI prog 181=true:=by kernel_rfl
@[go_sem] theorem uZc:f181.results.toList=[.tmp 6]:=rfl
@[go_sem] theorem uW8:entI prog 183=true:=by kernel_rfl
@[go_sem] theorem uZb:f183.results.toList=[.tmp 2]:=rfl
@[go_sem] theorem uW7:entI prog 186=true:=by kernel_rfl
@[go_sem] theorem uZa:f186.results.toList=[.tmp 6]:=rfl
@[go_sem] theorem uW6:entI prog 187=true:=by kernel_rfl
@[go_sem] theorem uZ9:f187.results.toList=[.tmp 6]:=rfl
@[go_sem] theorem uW5:entI prog 188=true:=by kernel_rfl
@[go_sem] theorem uZ8:f188.results.toList=[.tmp 8]:=rfl
@[go_sem] theorem uW4:entI prog 189=true:=by kernel_rfl
@[go_sem] theorem uZ7:f189.results.toList=[.tmp 2]:=rfl
@[go_sem] theorem uW3:entI prog 190=true:=by kernel_rfl
@[go_sem] theorem uZ6:f190.results.toList=[]:=rfl
@[go_sem] theorem uW2:entI prog 191=true:=by kernel_rfl
@[go_sem] theorem uZ5:f191.results.toList=[.tmp 3]:=rfl
@[go_sem] theorem uW1:entI prog 192=true:=by kernel_rfl
@[go_sem] theorem uZ4:f192.results.toList=[.tmp 4]:=rfl
@[go_sem] theorem uW0:entI prog 193=true:=by kernel_rfl
@[go_sem] theorem uZ3:f193.results.toList=[.tmp 4]:=rfl
@[go_sem] theorem uVz:entI prog 194=true:=by kernel_rfl
@[go_sem] theorem uZ2:f194.results.toList=[.cell 2 34]:=rfl
@[go_sem] theorem uVy:entI prog 195=true:=by kernel_rfl
@[go_sem] theorem uZ1:f195.results.toList=[.tmp 4]:=rfl
@[go_sem] theorem uZ0:f196.results.toList=[.tmp 6]:=rfl
@[go_sem] theorem uQz:f197.results.toList=[.tmp 6]:=rfl
@[go_sem] theorem uQy:f198.results.toList=[.tmp 6]:=rfl
@[go_sem] theorem uQx:f199.results.toList=[.tmp 6]:=rfl
@[go_sem] theorem uQw:f200.results.toList=[.tmp 6]:=rfl
@[go_sem] theorem uQv:f201.results.toList=[.tmp 6]:=rfl
@[go_sem] theorem uQu:f202.results.toList=[.tmp 6]:=rfl
@[go_sem] theorem uQt:f203.results.toList=[.tmp 6]:=rfl
@[go_sem] theorem uQs:f204.results.toList=[.tmp 6]:=rfl
@[go_sem] theorem uQr:f205.results.toList=[.tmp 6]:=rfl
@[go_sem] theorem uQq:f206.results.toList=[.tmp 6]:=rfl
@[go_sem] theorem uVx:entI prog 207=true:=by kernel_rfl
@[go_sem] theorem uQp:f207.results.toList=[.cell 4 27]:=rfl
@[go_sem] theorem uQo:f208.results.toList=[.tmp 6]:=rfl
@[go_sem] theorem uQn:f209.results.toList=[.tmp 6]:=rfl
@[go_sem] theorem uVw:entI prog 210=true:=by kernel_rfl
@[go_sem] theorem uQm:f210.results.toList=[.tmp 6]:=rfl
@[go_sem] theorem uVv:entI prog 211=true:=by kernel_rfl
@[go_sem] theorem uQl:f211.results.toList=[.cell 4 27,.tmp 5]:=rfl
@[go_sem] theorem uVu:entI prog 212=true:=by kernel_rfl
@[go_sem] theorem uQk:f212.results.toList=[.tmp 4]:=rfl
@[go_sem] theorem uVt:entI prog 213=true:=by kernel_rfl
@[go_sem] theorem uQj:f213.results.toList=[.tmp 4]:=rfl
@[go_sem] theorem uVs:entI prog 214=true:=by kernel_rfl
@[go_sem] theorem uQi:f214.results.toList=[.tmp 2]:=rfl
@[go_sem] theorem uVr:entI prog 215=true:=by kernel_rfl
@[go_sem] theorem uQh:f215.results.toList=[.tmp 2]:=rfl
@[go_sem] theorem uVq:entI prog 216=true:=by kernel_rfl
@[go_sem] theorem uQg:f216.results.toList=[.cell 4 34]:=rfl
@[go_sem] theorem uVp:entI prog 217=true:=by kernel_rfl
@[go_sem] theorem uQf:f217.results.toList=[.tmp 4]:=rfl
@[go_sem] theorem uVo:entI prog 218=true:=by kernel_rfl
@[go_sem] theorem uQe:f218.results.toList=[.tmp 2]:=rfl
@[go_sem] theorem uVn:entI prog 219=true:=by kernel_rfl
@[go_sem] theorem uQd:f219.results.toList=[.tmp 4]:=rfl
@[go_sem] theorem uVm:entI prog 220=true:=by kernel_rfl
@[go_sem] theorem uQc:f220.results.toList=[.tmp 2]:=rfl
@[go_sem] theorem uQb:f221.results.toList=[]:=rfl
@[go_sem] theorem uVl:entI prog 222=true:=by kernel_rfl
@[go_sem] theorem uQa:f222.results.toList=[.tmp 4]:=rfl
@[go_sem] theorem uVk:entI prog 226=true:=by kernel_rfl
@[go_sem] theorem uQ9:f226.results.toList=[.tmp 4]:=rfl
@[go_sem] theorem uVj:entI prog 230=true:=by kernel_rfl
@[go_sem] theorem uQ8:f230.results.toList=[]:=rfl
@[go_sem] theorem uVi:entI prog 231=true:=by kernel_rfl
@[go_sem] theorem uQ7:f231.results.toList=[.tmp 6]:=rfl
@[go_sem] theorem uVh:entI prog 232=true:=by kernel_rfl
@[go_sem] theorem uQ6:f232.results.toList=[.cell 4 34]:=rfl
@[go_sem] theorem uVg:entI prog 233=true:=by kernel_rfl
@[go_sem] theorem uQ5:f233.results.toList=[.cell 3 34,.tmp 4]:=rfl
@[go_sem] theorem uVf:entI prog 234=true:=by kernel_rfl
@[go_sem] theorem uQ4:f234.results.toList=[.tmp 2]:=rfl
@[go_sem] theorem uVe:entI prog 235=true:=by kernel_rfl
@[go_sem] theorem uQ3:f235.results.toList=[.tmp 2]:=rfl
@[go_sem] theorem uVd:entI prog 246=true:=by kernel_rfl
@[go_sem] theorem uQ2:f246.results.toList=[.tmp 2]:=rfl
@[go_sem] theorem uVc:entI prog 247=true:=by kernel_rfl
@[go_sem] theorem uVb:entI prog 249=true:=by kernel_rfl
@[go_sem] theorem uQ1:f249.results.toList=[.tmp 4]:=rfl
@[go_sem] theorem uVa:entI prog 250=true:=by kernel_rfl
@[go_sem] theorem uQ0:f250.results.toList=[.tmp 4]:=rfl
@[go_sem] theorem uV9:entI prog 252=true:=by kernel_rfl
@[go_sem] theorem vUz:f252.results.toList=[.tmp 6]:=rfl
@[go_sem] theorem uV8:entI prog 253=true:=by kernel_rfl
@[go_sem] theorem vUy:f253.results.toList=[.tmp 6]:=rfl
@[go_sem] theorem uV7:entI prog 254=true:=by kernel_rfl
@[go_sem] theorem vUx:f254.results.toList=[.tmp 4]:=rfl
@[go_sem] theorem uV6:entI prog 255=true:=by kernel_rfl
@[go_sem] theorem vUw:f255.results.toList=[]:=rfl
@[go_sem] theorem uV5:entI prog 256=true:=by kernel_rfl
@[go_sem] theorem vUv:f256.results.toList=[.tmp 4]:=rfl
@[go_sem] theorem uV4:entI prog 257=true:=by kernel_rfl
@[go_sem] theorem vUu:f257.results.toList=[.tmp 2]:=rfl
@[go_sem] theorem uV3:entI prog 259=true:=by kernel_rfl
@[go_sem] theorem vUt:f259.results.toList=[.tmp 2]:=rfl
@[go_sem] theorem uV2:entI prog 260=true:=by kernel_rfl
@[go_sem] theorem vUs:f260.results.toList=[.cell 2 261]:=rfl
@[go_sem] theorem uV1:entI prog 261=true:=by kernel_rfl
@[go_sem] theorem vUr:f261.results.toList=[.tmp 6,.tmp 7]:=rfl
@[go_sem] theorem uV0:entI prog 262=true:=by kernel_rfl
@[go_sem] theorem vUq:f262.results.toList=[.cell 4 27]:=rfl
@[go_sem] theorem uKz:entI prog 263=true:=by kernel_rfl
@[go_sem] theorem vUp:f263.results.toList=[.tmp 2]:=rfl
@[go_sem] theorem uKy:entI prog 265=true:=by kernel_rfl
@[go_sem] theorem vUo:f265.results.toList=[.tmp 2]:=rfl
@[go_sem] theorem uKx:entI prog 269=true:=by kernel_rfl
@[go_sem] theorem vUn:f269.results.toList=[.tmp 2]:=rfl
@[go_sem] theorem uKw:entI prog 272=true:=by kernel_rfl
@[go_sem] theorem vUm:f272.results.toList=[.tmp 4]:=rfl
@[go_sem] theorem uKv:entI prog 273=true:=by kernel_rfl
@[go_sem] theorem vUl:f273.results.toList=[.tmp 4]:=rfl
@[go_sem] theorem uKu:entI prog 274=true:=by kernel_rfl
@[go_sem] theorem vUk:f274.results.toList=[]:=rfl
@[go_sem] theorem uKt:entI prog 275=true:=by kernel_rfl
@[go_sem] theorem vUj:f275.results.toList=[.cell 2 34]:=rfl
@[go_sem] theorem uKs:entI prog 276=true:=by kernel_rfl
@[go_sem] theorem uKr:entI prog 283=true:=by kernel_rfl
@[go_sem] theorem vUi:f283.results.toList=[.tmp 2]:=rfl
@[go_sem] theorem uKq:entI prog 285=true:=by kernel_rfl
@[go_sem] theorem vUh:f285.results.toList=[.tmp 4]:=rfl
@[go_sem] theorem uKp:entI prog 286=true:=by kernel_rfl
@[go_sem] theorem vUg:f286.results.toList=[.tmp 2]:=rfl
@[go_sem] theorem uKo:entI prog 287=true:=by kernel_rfl
@[go_sem] theorem vUf:f287.results.toList=[.tmp 2]:=rfl
@[go_sem] theorem uKn:entI prog 289=true:=by kernel_rfl
@[go_sem] theorem vUe:f289.results.toList=[.tmp 2]:=rfl
@[go_sem] theorem uKm:entI prog 290=true:=by kernel_rfl
@[go_sem] theorem vUd:f290.results.toList=[.tmp 2]:=rfl
@[go_sem] theorem uKl:entI prog 291=true:=by kernel_rfl
@[go_sem] theorem vUc:f291.results.toList=[.tmp 2]:=rfl
@[go_sem] theorem uKk:entI prog 292=true:=by kernel_rfl
@[go_sem] theorem vUb:f292.results.toList=[.tmp 2]:=rfl
@[go_sem] theorem uKj:entI prog 293=true:=by kernel_rfl
@[go_sem] theorem vUa:f293.results.toList=[.tmp 2]:=rfl
@[go_sem] theorem uKi:entI prog 294=true:=by kernel_rfl
@[go_sem] theorem vU9:f294.results.toList=[.tmp 6,.tmp 7]:=rfl
@[go_sem] theorem uKh:entI prog 295=true:=by kernel_rfl
@[go_sem] theorem vU8:f295.results.toList=[]:=rfl
@[go_sem] theorem uKg:entI prog 296=true:=by kernel_rfl
@[go_sem] theorem vU7:f296.results.toList=[.cell 4 34,.tmp 5]:=rfl
@[go_sem] theorem uKf:entI prog 297=true:=by kernel_rfl
@[go_sem] theorem vU6:f297.results.toList=[.tmp 4,.tmp 5]:=rfl
@[go_sem] theorem uKe:entI prog 309=true:=by kernel_rfl
@[go_sem] theorem vU5:f309.results.toList=[.cell 2 34,.tmp 3]:=rfl
@[go_sem] theorem uKd:entI prog 312=true:=by kernel_rfl
@[go_sem] theorem vU4:f312.results.toList=[.tmp 2]:=rfl
@[go_sem] theorem uKc:entI prog 313=true:=by kernel_rfl
@[go_sem] theorem vU3:f313.results.toList=[.tmp 4]:=rfl
@[go_sem] theorem uKb:entI prog 314=true:=by kernel_rfl
@[go_sem] theorem vU2:f314.results.toList=[.tmp 2]:=rfl
@[go_sem] theorem uKa:entI prog 316=true:=by kernel_rfl
@[go_sem] theorem vU1:f316.results.toList=[.tmp 2]:=rfl
@[go_sem] theorem uK9:entI prog 317=true:=by kernel_rfl
@[go_sem] theorem vU0:f317.results.toList=[]:=rfl
@[go_sem] theorem uK8:entI prog 318=true:=by kernel_rfl
@[go_sem] theorem vGz:f318.results.toList=[.tmp 4]:=rfl
@[go_sem] theorem uK7:entI prog 319=true:=by kernel_rfl
@[go_sem] theorem vGy:f319.results.toList=[.tmp 2]:=rfl
@[go_sem] theorem uK6:entI prog 333=true:=by kernel_rfl
@[go_sem] theorem vGx:f333.results.toList=[.tmp 4]:=rfl
end Go.Proofs.Tryz
