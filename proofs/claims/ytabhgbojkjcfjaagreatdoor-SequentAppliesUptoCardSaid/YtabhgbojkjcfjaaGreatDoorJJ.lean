/- Tables of the seat, printed by tabs.py: -/
import Derived.Test.YtabhgbojkjcfjaaGreatDoorJI
import Derived.Test.YtabhgbojkjcfjaaGreatDoorProg
set_option linter.all false
namespace Go.Proofs.Tryz
open Go Go.Iv
@[go_sem] theorem ty_3:tyI prog 3=some (false,1):=by kernel_rfl
@[go_sem] theorem vK7:intK prog 3=some .i64:=by kernel_rfl
@[go_sem] theorem uU5:yJw prog 3=some (.raw (.int .i64 0)):=by kernel_rfl
@[go_sem] theorem ty_4:tyI prog 4=some (false,1):=by kernel_rfl
@[go_sem] theorem kJx:zKs prog 4=true:=by kernel_rfl
@[go_sem] theorem ty_5:tyI prog 5=some (false,1):=by kernel_rfl
@[go_sem] theorem vK6:intK prog 5=some .u8:=by kernel_rfl
@[go_sem] theorem ty_9:tyI prog 9=some (false,1):=by kernel_rfl
@[go_sem] theorem kKm:lenI prog 9=some .str:=by kernel_rfl
@[go_sem] theorem kKc:strT prog 9=true:=by kernel_rfl
@[go_sem] theorem kKb:tyI prog 22=some (false,1):=by kernel_rfl
@[go_sem] theorem kX0:lenI prog 22=some .sl:=by kernel_rfl
@[go_sem] theorem kKi:slI prog 22=some (27,true,4,72):=by kernel_rfl
@[go_sem] theorem kKa:tyI prog 24=some (true,2):=by kernel_rfl
@[go_sem] theorem vG3:fldI prog 24 0=some (0,false,1):=by kernel_rfl
@[go_sem] theorem vG2:fldI prog 24 1=some (1,false,1):=by kernel_rfl
@[go_sem] theorem uKr:yXx prog 24=true:=by kernel_rfl
@[go_sem] theorem vU5:yJw prog 24=some (.agg [.sl ⟨true,.nil,0⟩ [],.sl ⟨true,.nil,0⟩ []]):=by kernel_rfl
@[go_sem] theorem kK9:tyI prog 25=some (false,1):=by kernel_rfl
@[go_sem] theorem kZz:lenI prog 25=some .sl:=by kernel_rfl
@[go_sem] theorem kKh:slI prog 25=some (29,true,3,48):=by kernel_rfl
@[go_sem] theorem kK8:tyI prog 27=some (true,4):=by kernel_rfl
@[go_sem] theorem vG1:fldI prog 27 0=some (0,false,1):=by kernel_rfl
@[go_sem] theorem vG0:fldI prog 27 1=some (1,false,1):=by kernel_rfl
@[go_sem] theorem vYz:fldI prog 27 2=some (2,false,1):=by kernel_rfl
@[go_sem] theorem vYy:fldI prog 27 3=some (3,false,1):=by kernel_rfl
@[go_sem] theorem uKq:yXx prog 27=true:=by kernel_rfl
@[go_sem] theorem vU4:yJw prog 27=some (.agg [.raw (.int .u8 0),.raw (.string ⟨#[]⟩),.sl ⟨true,.nil,0⟩ [],.sl ⟨true,.nil,0⟩ []]):=by kernel_rfl
@[go_sem] theorem kK7:tyI prog 29=some (true,3):=by kernel_rfl
@[go_sem] theorem vYx:fldI prog 29 0=some (0,false,1):=by kernel_rfl
@[go_sem] theorem vYw:fldI prog 29 1=some (1,false,1):=by kernel_rfl
@[go_sem] theorem vYv:fldI prog 29 2=some (2,false,1):=by kernel_rfl
@[go_sem] theorem uKp:yXx prog 29=true:=by kernel_rfl
@[go_sem] theorem vU3:yJw prog 29=some (.agg [.raw (.bool false),.raw (.string ⟨#[]⟩),.sl ⟨true,.nil,0⟩ []]):=by kernel_rfl
@[go_sem] theorem kK6:tyI prog 30=some (false,1):=by kernel_rfl
@[go_sem] theorem kZy:lenI prog 30=some .sl:=by kernel_rfl
@[go_sem] theorem kKg:slI prog 30=some (32,true,12,216):=by kernel_rfl
@[go_sem] theorem kK5:tyI prog 32=some (true,12):=by kernel_rfl
@[go_sem] theorem vYu:fldI prog 32 0=some (0,false,1):=by kernel_rfl
@[go_sem] theorem vYt:fldI prog 32 1=some (1,true,2):=by kernel_rfl
@[go_sem] theorem vYs:fldI prog 32 2=some (3,true,4):=by kernel_rfl
@[go_sem] theorem vYr:fldI prog 32 3=some (7,true,3):=by kernel_rfl
@[go_sem] theorem vYq:fldI prog 32 4=some (10,false,1):=by kernel_rfl
@[go_sem] theorem vYp:fldI prog 32 5=some (11,false,1):=by kernel_rfl
@[go_sem] theorem uKo:yXx prog 32=true:=by kernel_rfl
@[go_sem] theorem vU2:yJw prog 32=some (.agg [.raw (.int .u8 0),.sl ⟨true,.nil,0⟩ [],.sl ⟨true,.nil,0⟩ [],.raw (.int .u8 0),.raw (.string ⟨#[]⟩),.sl ⟨true,.nil,0⟩ [],.sl ⟨true,.nil,0⟩ [],.raw (.bool false),.raw (.string ⟨#[]⟩),.sl ⟨true,.nil,0⟩ [],.raw (.string ⟨#[]⟩),.sl ⟨true,.nil,0⟩ []]):=by kernel_rfl
@[go_sem] theorem kZx:lenI prog 46=some .sl:=by kernel_rfl
@[go_sem] theorem kKf:slI prog 46=some (24,true,2,48):=by kernel_rfl
@[go_sem] theorem kK4:tyI prog 50=some (false,1):=by kernel_rfl
@[go_sem] theorem kZw:lenI prog 50=some .sl:=by kernel_rfl
@[go_sem] theorem kKe:slI prog 50=some (3,false,1,8):=by kernel_rfl
@[go_sem] theorem vU1:yJw prog 50=some (.sl ⟨true,.nil,0⟩ []):=by kernel_rfl
@[go_sem] theorem kK3:tyI prog 51=some (false,1):=by kernel_rfl
@[go_sem] theorem vU0:yJw prog 51=some (.raw (.int .i64 0)):=by kernel_rfl
@[go_sem] theorem kK2:tyI prog 57=some (false,1):=by kernel_rfl
@[go_sem] theorem kZv:lenI prog 57=some .sl:=by kernel_rfl
@[go_sem] theorem kKd:slI prog 57=some (59,true,12,216):=by kernel_rfl
@[go_sem] theorem kK1:tyI prog 59=some (true,12):=by kernel_rfl
@[go_sem] theorem vYo:fldI prog 59 0=some (0,false,1):=by kernel_rfl
@[go_sem] theorem vYn:fldI prog 59 1=some (1,true,2):=by kernel_rfl
@[go_sem] theorem vYm:fldI prog 59 2=some (3,true,4):=by kernel_rfl
@[go_sem] theorem vYl:fldI prog 59 3=some (7,true,3):=by kernel_rfl
@[go_sem] theorem vYk:fldI prog 59 4=some (10,false,1):=by kernel_rfl
@[go_sem] theorem vYj:fldI prog 59 5=some (11,false,1):=by kernel_rfl
@[go_sem] theorem uKn:yXx prog 59=true:=by kernel_rfl
@[go_sem] theorem vGz:yJw prog 59=some (.agg [.raw (.int .u8 0),.sl ⟨true,.nil,0⟩ [],.sl ⟨true,.nil,0⟩ [],.raw (.int .u8 0),.raw (.string ⟨#[]⟩),.sl ⟨true,.nil,0⟩ [],.sl ⟨true,.nil,0⟩ [],.raw (.bool false),.raw (.string ⟨#[]⟩),.sl ⟨true,.nil,0⟩ [],.raw (.string ⟨#[]⟩),.sl ⟨true,.nil,0⟩ []]):=by kernel_rfl
@[go_sem] theorem kK0:tyI prog 90=some (false,1):=by kernel_rfl
@[go_sem] theorem kJz:tyI prog 95=some (false,1):=by kernel_rfl
@[go_sem] theorem kJy:tyI prog 99=some (false,1):=by kernel_rfl
@[go_sem] theorem uKg:lenI prog 104=some .sl:=by kernel_rfl
@[go_sem] theorem uUw:slI prog 104=some (9,false,1,16):=by kernel_rfl
@[go_sem] theorem uUo:tyI prog 122=some (false,1):=by kernel_rfl
@[go_sem] theorem uUn:tyI prog 124=some (true,5):=by kernel_rfl
@[go_sem] theorem vV6:fldI prog 124 0=some (0,false,1):=by kernel_rfl
@[go_sem] theorem vV5:fldI prog 124 1=some (1,false,1):=by kernel_rfl
@[go_sem] theorem vV4:fldI prog 124 2=some (2,false,1):=by kernel_rfl
@[go_sem] theorem vV3:fldI prog 124 3=some (3,false,1):=by kernel_rfl
@[go_sem] theorem vV2:fldI prog 124 4=some (4,false,1):=by kernel_rfl
@[go_sem] theorem vYi:yXx prog 124=true:=by kernel_rfl
@[go_sem] theorem vWb:yJw prog 124=some (.agg [.raw (.bool false),.raw (.bool false),.raw (.int .u8 0),.raw (.int .u8 0),.raw .nilFunc]):=by kernel_rfl
@[go_sem] theorem uK8:mapI prog 126=some (.int .u8,.agg [.raw (.bool false),.raw (.bool false),.raw (.int .u8 0),.raw (.int .u8 0),.raw .nilFunc]):=by kernel_rfl
@[go_sem] theorem uUm:tyI prog 136=some (true,4):=by kernel_rfl
@[go_sem] theorem vV1:fldI prog 136 0=some (0,false,1):=by kernel_rfl
@[go_sem] theorem vV0:fldI prog 136 1=some (1,true,3):=by kernel_rfl
@[go_sem] theorem vYh:yXx prog 136=true:=by kernel_rfl
@[go_sem] theorem vWa:yJw prog 136=some (.agg [.raw (.string ⟨#[]⟩),.raw (.bool false),.raw (.string ⟨#[]⟩),.sl ⟨true,.nil,0⟩ []]):=by kernel_rfl
@[go_sem] theorem uKf:lenI prog 137=some .sl:=by kernel_rfl
@[go_sem] theorem uUv:slI prog 137=some (136,true,4,64):=by kernel_rfl
@[go_sem] theorem uUl:tyI prog 138=some (false,1):=by kernel_rfl
@[go_sem] theorem uUk:tyI prog 139=some (false,1):=by kernel_rfl
@[go_sem] theorem vW9:yJw prog 139=some (.raw .nilFunc):=by kernel_rfl
@[go_sem] theorem uKe:lenI prog 171=some .sl:=by kernel_rfl
@[go_sem] theorem uUu:slI prog 171=some (22,false,1,24):=by kernel_rfl
@[go_sem] theorem uUj:tyI prog 183=some (false,1):=by kernel_rfl
@[go_sem] theorem uK7:mapI prog 183=some (.str,.raw (.bool false)):=by kernel_rfl
@[go_sem] theorem vW8:yJw prog 183=some (.raw (.map none)):=by kernel_rfl
@[go_sem] theorem uUt:slI prog 186=some (5,false,1,1):=by kernel_rfl
@[go_sem] theorem uGv:xXm prog 186=true:=by kernel_rfl
@[go_sem] theorem uUi:tyI prog 204=some (true,3):=by kernel_rfl
@[go_sem] theorem vKz:fldI prog 204 0=some (0,false,1):=by kernel_rfl
@[go_sem] theorem vKy:fldI prog 204 1=some (1,false,1):=by kernel_rfl
@[go_sem] theorem vKx:fldI prog 204 2=some (2,false,1):=by kernel_rfl
@[go_sem] theorem vYg:yXx prog 204=true:=by kernel_rfl
@[go_sem] theorem vW7:yJw prog 204=some (.agg [.raw (.bool false),.raw (.int .i64 0),.raw (.int .i64 0)]):=by kernel_rfl
@[go_sem] theorem uUh:tyI prog 212=some (true,4):=by kernel_rfl
@[go_sem] theorem vKw:fldI prog 212 0=some (0,false,1):=by kernel_rfl
@[go_sem] theorem vKv:fldI prog 212 1=some (1,true,3):=by kernel_rfl
@[go_sem] theorem vYf:yXx prog 212=true:=by kernel_rfl
@[go_sem] theorem vW6:yJw prog 212=some (.agg [.raw (.string ⟨#[]⟩),.raw (.bool false),.raw (.string ⟨#[]⟩),.sl ⟨true,.nil,0⟩ []]):=by kernel_rfl
@[go_sem] theorem uKd:lenI prog 213=some .sl:=by kernel_rfl
@[go_sem] theorem uUs:slI prog 213=some (212,true,4,64):=by kernel_rfl
@[go_sem] theorem uUg:tyI prog 228=some (false,1):=by kernel_rfl
@[go_sem] theorem uK6:mapI prog 228=some (.str,.raw (.int .i64 0)):=by kernel_rfl
@[go_sem] theorem uUf:tyI prog 230=some (false,1):=by kernel_rfl
@[go_sem] theorem uKc:lenI prog 230=some .sl:=by kernel_rfl
@[go_sem] theorem uUr:slI prog 230=some (233,true,2,32):=by kernel_rfl
@[go_sem] theorem uUe:tyI prog 233=some (true,2):=by kernel_rfl
@[go_sem] theorem vKu:fldI prog 233 0=some (0,false,1):=by kernel_rfl
@[go_sem] theorem vKt:fldI prog 233 1=some (1,false,1):=by kernel_rfl
@[go_sem] theorem vYe:yXx prog 233=true:=by kernel_rfl
@[go_sem] theorem vW5:yJw prog 233=some (.agg [.raw (.string ⟨#[]⟩),.raw (.string ⟨#[]⟩)]):=by kernel_rfl
@[go_sem] theorem uUd:tyI prog 251=some (true,5):=by kernel_rfl
@[go_sem] theorem vKs:fldI prog 251 0=some (0,false,1):=by kernel_rfl
@[go_sem] theorem vKr:fldI prog 251 2=some (2,false,1):=by kernel_rfl
@[go_sem] theorem vKq:fldI prog 251 3=some (3,false,1):=by kernel_rfl
@[go_sem] theorem vKp:fldI prog 251 4=some (4,false,1):=by kernel_rfl
@[go_sem] theorem vW4:yJw prog 251=some (.agg [.raw (.bool false),.raw (.bool false),.raw (.int .u8 0),.raw (.int .i64 0),.raw (.int .i64 0)]):=by kernel_rfl
@[go_sem] theorem uKb:lenI prog 252=some (.arr 17):=by kernel_rfl
@[go_sem] theorem uGw:arrI prog 252=some (17,true,5):=by kernel_rfl
@[go_sem] theorem uKa:lenI prog 259=some .sl:=by kernel_rfl
@[go_sem] theorem uUq:slI prog 259=some (261,true,7,88):=by kernel_rfl
@[go_sem] theorem uUc:tyI prog 261=some (true,7):=by kernel_rfl
@[go_sem] theorem vKo:fldI prog 261 0=some (0,true,4):=by kernel_rfl
@[go_sem] theorem vKn:fldI prog 261 1=some (4,false,1):=by kernel_rfl
@[go_sem] theorem vKm:fldI prog 261 2=some (5,false,1):=by kernel_rfl
@[go_sem] theorem vKl:fldI prog 261 3=some (6,false,1):=by kernel_rfl
@[go_sem] theorem vYd:yXx prog 261=true:=by kernel_rfl
@[go_sem] theorem vW3:yJw prog 261=some (.agg [.raw (.string ⟨#[]⟩),.raw (.bool false),.raw (.string ⟨#[]⟩),.sl ⟨true,.nil,0⟩ [],.raw (.map none),.raw (.int .i64 0),.raw (.int .i64 0)]):=by kernel_rfl
@[go_sem] theorem uK9:lenI prog 273=some .sl:=by kernel_rfl
@[go_sem] theorem uUp:slI prog 273=some (183,false,1,8):=by kernel_rfl
@[go_sem] theorem kKl:f5.results.toList=[.tmp 4]:=(rfl)
@[go_sem] theorem kKn:entI prog 8=true:=by kernel_rfl
@[go_sem] theorem kKk:f8.results.toList=[.tmp 2]:=(rfl)
@[go_sem] theorem kJw:entI prog 10=true:=by kernel_rfl
@[go_sem] theorem kZu:f10.results.toList=[.tmp 0]:=(rfl)
@[go_sem] theorem kJv:entI prog 11=true:=by kernel_rfl
@[go_sem] theorem kZt:f11.results.toList=[.tmp 2]:=(rfl)
@[go_sem] theorem kJu:entI prog 12=true:=by kernel_rfl
@[go_sem] theorem kZs:f12.results.toList=[.tmp 4]:=(rfl)
@[go_sem] theorem kJt:entI prog 13=true:=by kernel_rfl
@[go_sem] theorem kZr:f13.results.toList=[.tmp 2]:=(rfl)
@[go_sem] theorem kJs:entI prog 15=true:=by kernel_rfl
@[go_sem] theorem kZq:f15.results.toList=[.tmp 4]:=(rfl)
@[go_sem] theorem kJr:entI prog 18=true:=by kernel_rfl
@[go_sem] theorem kZp:f18.results.toList=[.cell 4 27]:=(rfl)
@[go_sem] theorem kJq:entI prog 19=true:=by kernel_rfl
@[go_sem] theorem kZo:f19.results.toList=[.cell 2 27]:=(rfl)
@[go_sem] theorem kJp:entI prog 20=true:=by kernel_rfl
@[go_sem] theorem kZn:f20.results.toList=[.cell 6 27]:=(rfl)
@[go_sem] theorem kJo:entI prog 22=true:=by kernel_rfl
@[go_sem] theorem kZm:f22.results.toList=[.tmp 10,.tmp 11]:=(rfl)
@[go_sem] theorem kJn:entI prog 23=true:=by kernel_rfl
@[go_sem] theorem kZl:f23.results.toList=[.cell 2 24]:=(rfl)
@[go_sem] theorem kJm:entI prog 25=true:=by kernel_rfl
@[go_sem] theorem kZk:f25.results.toList=[.cell 4 50,.cell 5 51]:=(rfl)
@[go_sem] theorem kJl:entI prog 27=true:=by kernel_rfl
@[go_sem] theorem kZj:f27.results.toList=[.tmp 4]:=(rfl)
@[go_sem] theorem kJk:entI prog 28=true:=by kernel_rfl
@[go_sem] theorem kZi:f28.results.toList=[.cell 2 59]:=(rfl)
@[go_sem] theorem kJj:entI prog 32=true:=by kernel_rfl
@[go_sem] theorem kZh:f32.results.toList=[.tmp 2]:=(rfl)
@[go_sem] theorem kJi:entI prog 34=true:=by kernel_rfl
@[go_sem] theorem kZg:f34.results.toList=[.tmp 2]:=(rfl)
@[go_sem] theorem kJh:entI prog 36=true:=by kernel_rfl
@[go_sem] theorem kZf:f36.results.toList=[.tmp 2]:=(rfl)
@[go_sem] theorem kJg:entI prog 39=true:=by kernel_rfl
@[go_sem] theorem kZe:f39.results.toList=[.cell 4 24]:=(rfl)
@[go_sem] theorem kJf:entI prog 40=true:=by kernel_rfl
@[go_sem] theorem kZd:f40.results.toList=[.cell 2 29]:=(rfl)
@[go_sem] theorem kJe:entI prog 41=true:=by kernel_rfl
@[go_sem] theorem kZc:f41.results.toList=[.tmp 12,.tmp 13]:=(rfl)
@[go_sem] theorem kJd:entI prog 42=true:=by kernel_rfl
@[go_sem] theorem kZb:f42.results.toList=[.cell 2 24,.tmp 3]:=(rfl)
@[go_sem] theorem kJc:entI prog 43=true:=by kernel_rfl
@[go_sem] theorem kZa:f43.results.toList=[.tmp 4]:=(rfl)
@[go_sem] theorem kJb:entI prog 44=true:=by kernel_rfl
@[go_sem] theorem kZ9:f44.results.toList=[.tmp 4]:=(rfl)
@[go_sem] theorem kJa:entI prog 45=true:=by kernel_rfl
@[go_sem] theorem kZ8:f45.results.toList=[.cell 2 24]:=(rfl)
@[go_sem] theorem kJ9:entI prog 48=true:=by kernel_rfl
@[go_sem] theorem kZ7:f48.results.toList=[.tmp 4]:=(rfl)
@[go_sem] theorem kJ8:entI prog 49=true:=by kernel_rfl
@[go_sem] theorem kZ6:f49.results.toList=[.tmp 4]:=(rfl)
@[go_sem] theorem kJ7:entI prog 50=true:=by kernel_rfl
@[go_sem] theorem kZ5:f50.results.toList=[.tmp 4]:=(rfl)
@[go_sem] theorem kJ6:entI prog 51=true:=by kernel_rfl
@[go_sem] theorem kZ4:f51.results.toList=[.tmp 4]:=(rfl)
@[go_sem] theorem kJ5:entI prog 52=true:=by kernel_rfl
@[go_sem] theorem kZ3:f52.results.toList=[.tmp 4]:=(rfl)
@[go_sem] theorem kJ4:entI prog 54=true:=by kernel_rfl
@[go_sem] theorem kZ2:f54.results.toList=[]:=(rfl)
@[go_sem] theorem kJ3:entI prog 55=true:=by kernel_rfl
@[go_sem] theorem kZ1:f55.results.toList=[.tmp 4]:=(rfl)
@[go_sem] theorem kJ2:entI prog 56=true:=by kernel_rfl
@[go_sem] theorem kZ0:f56.results.toList=[.cell 2 27]:=(rfl)
@[go_sem] theorem kJ1:entI prog 57=true:=by kernel_rfl
@[go_sem] theorem kQz:f57.results.toList=[.cell 2 29]:=(rfl)
@[go_sem] theorem kJ0:entI prog 58=true:=by kernel_rfl
@[go_sem] theorem kQy:f58.results.toList=[.tmp 10,.tmp 11]:=(rfl)
@[go_sem] theorem kXz:entI prog 59=true:=by kernel_rfl
@[go_sem] theorem kQx:f59.results.toList=[.tmp 4,.tmp 5]:=(rfl)
@[go_sem] theorem kXy:entI prog 60=true:=by kernel_rfl
@[go_sem] theorem kQw:f60.results.toList=[.tmp 4]:=(rfl)
@[go_sem] theorem kXx:entI prog 61=true:=by kernel_rfl
@[go_sem] theorem kQv:f61.results.toList=[]:=(rfl)
@[go_sem] theorem kXw:entI prog 62=true:=by kernel_rfl
@[go_sem] theorem kQu:f62.results.toList=[.tmp 4]:=(rfl)
@[go_sem] theorem kXv:entI prog 63=true:=by kernel_rfl
@[go_sem] theorem kQt:f63.results.toList=[.tmp 4]:=(rfl)
@[go_sem] theorem kXu:entI prog 64=true:=by kernel_rfl
@[go_sem] theorem kQs:f64.results.toList=[.tmp 4,.tmp 5,.tmp 6,.tmp 7]:=(rfl)
@[go_sem] theorem kXt:entI prog 65=true:=by kernel_rfl
@[go_sem] theorem kQr:f65.results.toList=[.tmp 4]:=(rfl)
@[go_sem] theorem kXs:entI prog 66=true:=by kernel_rfl
@[go_sem] theorem kQq:f66.results.toList=[.cell 4 24]:=(rfl)
@[go_sem] theorem kXr:entI prog 67=true:=by kernel_rfl
@[go_sem] theorem kQp:f67.results.toList=[.tmp 2]:=(rfl)
@[go_sem] theorem kXq:entI prog 68=true:=by kernel_rfl
@[go_sem] theorem kQo:f68.results.toList=[.tmp 2]:=(rfl)
@[go_sem] theorem kXp:entI prog 69=true:=by kernel_rfl
@[go_sem] theorem kQn:f69.results.toList=[.cell 6 27,.tmp 7]:=(rfl)
@[go_sem] theorem kXo:entI prog 70=true:=by kernel_rfl
@[go_sem] theorem kQm:f70.results.toList=[.tmp 2]:=(rfl)
@[go_sem] theorem kXn:entI prog 71=true:=by kernel_rfl
@[go_sem] theorem kQl:f71.results.toList=[.tmp 2]:=(rfl)
@[go_sem] theorem kXm:entI prog 72=true:=by kernel_rfl
@[go_sem] theorem kQk:f72.results.toList=[.tmp 2]:=(rfl)
@[go_sem] theorem kXl:entI prog 73=true:=by kernel_rfl
@[go_sem] theorem kQj:f73.results.toList=[.tmp 4]:=(rfl)
@[go_sem] theorem kXk:entI prog 74=true:=by kernel_rfl
@[go_sem] theorem kQi:f74.results.toList=[.tmp 2]:=(rfl)
@[go_sem] theorem kXj:entI prog 79=true:=by kernel_rfl
@[go_sem] theorem kQh:f79.results.toList=[.cell 2 27]:=(rfl)
@[go_sem] theorem kXi:entI prog 80=true:=by kernel_rfl
@[go_sem] theorem kQg:f80.results.toList=[.cell 2 29]:=(rfl)
@[go_sem] theorem kXh:entI prog 82=true:=by kernel_rfl
@[go_sem] theorem kQf:f82.results.toList=[.tmp 4]:=(rfl)
@[go_sem] theorem kXg:entI prog 83=true:=by kernel_rfl
@[go_sem] theorem kQe:f83.results.toList=[.tmp 4]:=(rfl)
@[go_sem] theorem kXf:entI prog 84=true:=by kernel_rfl
@[go_sem] theorem kQd:f84.results.toList=[.tmp 2]:=(rfl)
@[go_sem] theorem kXe:entI prog 85=true:=by kernel_rfl
@[go_sem] theorem kQc:f85.results.toList=[.tmp 4]:=(rfl)
@[go_sem] theorem kXd:entI prog 86=true:=by kernel_rfl
@[go_sem] theorem kQb:f86.results.toList=[.tmp 2]:=(rfl)
@[go_sem] theorem kXc:entI prog 87=true:=by kernel_rfl
@[go_sem] theorem kQa:f87.results.toList=[.tmp 4]:=(rfl)
@[go_sem] theorem kXb:entI prog 88=true:=by kernel_rfl
@[go_sem] theorem kQ9:f88.results.toList=[.tmp 4]:=(rfl)
@[go_sem] theorem kXa:entI prog 89=true:=by kernel_rfl
@[go_sem] theorem kQ8:f89.results.toList=[.tmp 4]:=(rfl)
@[go_sem] theorem kX9:entI prog 90=true:=by kernel_rfl
@[go_sem] theorem kQ7:f90.results.toList=[.tmp 12,.tmp 13]:=(rfl)
@[go_sem] theorem kX8:entI prog 91=true:=by kernel_rfl
@[go_sem] theorem kQ6:f91.results.toList=[.tmp 2]:=(rfl)
@[go_sem] theorem kX7:entI prog 92=true:=by kernel_rfl
@[go_sem] theorem kQ5:f92.results.toList=[.tmp 2,.tmp 3]:=(rfl)
@[go_sem] theorem kX6:entI prog 93=true:=by kernel_rfl
@[go_sem] theorem kQ4:f93.results.toList=[.tmp 4]:=(rfl)
@[go_sem] theorem kX5:entI prog 94=true:=by kernel_rfl
@[go_sem] theorem kQ3:f94.results.toList=[.tmp 2]:=(rfl)
@[go_sem] theorem kX4:entI prog 97=true:=by kernel_rfl
@[go_sem] theorem kQ2:f97.results.toList=[.tmp 4]:=(rfl)
@[go_sem] theorem kX3:entI prog 98=true:=by kernel_rfl
@[go_sem] theorem kQ1:f98.results.toList=[.tmp 4]:=(rfl)
@[go_sem] theorem kX2:entI prog 99=true:=by kernel_rfl
@[go_sem] theorem kQ0:f99.results.toList=[.tmp 4]:=(rfl)
@[go_sem] theorem uGt:entI prog 100=true:=by kernel_rfl
@[go_sem] theorem uJv:f100.results.toList=[.tmp 4]:=(rfl)
@[go_sem] theorem uGs:entI prog 101=true:=by kernel_rfl
@[go_sem] theorem uJu:f101.results.toList=[.tmp 3]:=(rfl)
@[go_sem] theorem uGr:entI prog 102=true:=by kernel_rfl
@[go_sem] theorem uJt:f102.results.toList=[.tmp 4]:=(rfl)
@[go_sem] theorem uGq:entI prog 103=true:=by kernel_rfl
@[go_sem] theorem uJs:f103.results.toList=[]:=(rfl)
@[go_sem] theorem uGp:entI prog 104=true:=by kernel_rfl
@[go_sem] theorem uJr:f104.results.toList=[.tmp 4]:=(rfl)
@[go_sem] theorem uGo:entI prog 105=true:=by kernel_rfl
@[go_sem] theorem uJq:f105.results.toList=[.tmp 2]:=(rfl)
@[go_sem] theorem uGn:entI prog 106=true:=by kernel_rfl
@[go_sem] theorem uJp:f106.results.toList=[.tmp 2]:=(rfl)
@[go_sem] theorem uGm:entI prog 107=true:=by kernel_rfl
@[go_sem] theorem uJo:f107.results.toList=[.tmp 10,.tmp 11]:=(rfl)
@[go_sem] theorem uGl:entI prog 108=true:=by kernel_rfl
@[go_sem] theorem uJn:f108.results.toList=[.tmp 4,.tmp 5]:=(rfl)
@[go_sem] theorem uGk:entI prog 109=true:=by kernel_rfl
@[go_sem] theorem uJm:f109.results.toList=[.cell 4 24]:=(rfl)
@[go_sem] theorem uGj:entI prog 110=true:=by kernel_rfl
@[go_sem] theorem uJl:f110.results.toList=[.tmp 4]:=(rfl)
@[go_sem] theorem uGi:entI prog 111=true:=by kernel_rfl
@[go_sem] theorem uJk:f111.results.toList=[.tmp 2]:=(rfl)
@[go_sem] theorem uGh:entI prog 112=true:=by kernel_rfl
@[go_sem] theorem uJj:f112.results.toList=[.tmp 4]:=(rfl)
@[go_sem] theorem uGg:entI prog 113=true:=by kernel_rfl
@[go_sem] theorem uJi:f113.results.toList=[.tmp 4]:=(rfl)
@[go_sem] theorem uGf:entI prog 114=true:=by kernel_rfl
@[go_sem] theorem uJh:f114.results.toList=[.tmp 6]:=(rfl)
@[go_sem] theorem uGe:entI prog 115=true:=by kernel_rfl
@[go_sem] theorem uJg:f115.results.toList=[.tmp 4]:=(rfl)
@[go_sem] theorem uGd:entI prog 116=true:=by kernel_rfl
@[go_sem] theorem uJf:f116.results.toList=[.cell 4 27,.tmp 5]:=(rfl)
@[go_sem] theorem uJe:f117.results.toList=[]:=(rfl)
@[go_sem] theorem uGc:entI prog 118=true:=by kernel_rfl
@[go_sem] theorem uJd:f118.results.toList=[.tmp 5]:=(rfl)
@[go_sem] theorem uGb:entI prog 119=true:=by kernel_rfl
@[go_sem] theorem uJc:f119.results.toList=[.tmp 2]:=(rfl)
@[go_sem] theorem uGa:entI prog 122=true:=by kernel_rfl
@[go_sem] theorem uJb:f122.results.toList=[.tmp 2]:=(rfl)
@[go_sem] theorem uG9:entI prog 128=true:=by kernel_rfl
@[go_sem] theorem uJa:f128.results.toList=[.tmp 2]:=(rfl)
@[go_sem] theorem uG8:entI prog 130=true:=by kernel_rfl
@[go_sem] theorem uJ9:f130.results.toList=[.tmp 4]:=(rfl)
@[go_sem] theorem uG7:entI prog 131=true:=by kernel_rfl
@[go_sem] theorem uJ8:f131.results.toList=[.tmp 4]:=(rfl)
@[go_sem] theorem uG6:entI prog 132=true:=by kernel_rfl
@[go_sem] theorem uJ7:f132.results.toList=[.cell 2 27]:=(rfl)
@[go_sem] theorem uG5:entI prog 133=true:=by kernel_rfl
@[go_sem] theorem uJ6:f133.results.toList=[.cell 2 27,.tmp 3]:=(rfl)
@[go_sem] theorem uG4:entI prog 134=true:=by kernel_rfl
@[go_sem] theorem uG3:entI prog 135=true:=by kernel_rfl
@[go_sem] theorem uJ5:f135.results.toList=[.tmp 4]:=(rfl)
@[go_sem] theorem uG2:entI prog 136=true:=by kernel_rfl
@[go_sem] theorem uJ4:f136.results.toList=[.tmp 4]:=(rfl)
@[go_sem] theorem uG1:entI prog 137=true:=by kernel_rfl
@[go_sem] theorem uJ3:f137.results.toList=[.tmp 4]:=(rfl)
@[go_sem] theorem uG0:entI prog 138=true:=by kernel_rfl
@[go_sem] theorem uJ2:f138.results.toList=[.cell 4 27]:=(rfl)
@[go_sem] theorem uYz:entI prog 141=true:=by kernel_rfl
@[go_sem] theorem uJ1:f141.results.toList=[.tmp 2]:=(rfl)
@[go_sem] theorem uYy:entI prog 142=true:=by kernel_rfl
@[go_sem] theorem uJ0:f142.results.toList=[.tmp 4]:=(rfl)
@[go_sem] theorem uYx:entI prog 143=true:=by kernel_rfl
@[go_sem] theorem uXz:f143.results.toList=[.tmp 4]:=(rfl)
@[go_sem] theorem uYw:entI prog 144=true:=by kernel_rfl
@[go_sem] theorem uXy:f144.results.toList=[.tmp 8]:=(rfl)
@[go_sem] theorem uYv:entI prog 145=true:=by kernel_rfl
@[go_sem] theorem uXx:f145.results.toList=[.tmp 4]:=(rfl)
@[go_sem] theorem uYu:entI prog 146=true:=by kernel_rfl
@[go_sem] theorem uXw:f146.results.toList=[]:=(rfl)
@[go_sem] theorem uYt:entI prog 147=true:=by kernel_rfl
@[go_sem] theorem uXv:f147.results.toList=[.cell 4 29]:=(rfl)
@[go_sem] theorem uYs:entI prog 148=true:=by kernel_rfl
@[go_sem] theorem uXu:f148.results.toList=[.tmp 0]:=(rfl)
@[go_sem] theorem uXt:f149.results.toList=[.tmp 6]:=(rfl)
@[go_sem] theorem uYr:entI prog 150=true:=by kernel_rfl
@[go_sem] theorem uXs:f150.results.toList=[.cell 2 24]:=(rfl)
@[go_sem] theorem uXr:f151.results.toList=[.tmp 6]:=(rfl)
@[go_sem] theorem uXq:f152.results.toList=[.tmp 6]:=(rfl)
@[go_sem] theorem uYq:entI prog 153=true:=by kernel_rfl
@[go_sem] theorem uXp:f153.results.toList=[.cell 2 24]:=(rfl)
@[go_sem] theorem uXo:f154.results.toList=[.tmp 6]:=(rfl)
@[go_sem] theorem uYp:entI prog 155=true:=by kernel_rfl
@[go_sem] theorem uXn:f155.results.toList=[.tmp 2]:=(rfl)
@[go_sem] theorem uYo:entI prog 156=true:=by kernel_rfl
@[go_sem] theorem uXm:f156.results.toList=[.cell 6 27,.tmp 7]:=(rfl)
@[go_sem] theorem uYn:entI prog 157=true:=by kernel_rfl
@[go_sem] theorem uXl:f157.results.toList=[.tmp 4]:=(rfl)
@[go_sem] theorem uYm:entI prog 158=true:=by kernel_rfl
@[go_sem] theorem uXk:f158.results.toList=[.tmp 4]:=(rfl)
@[go_sem] theorem uYl:entI prog 159=true:=by kernel_rfl
@[go_sem] theorem uXj:f159.results.toList=[.tmp 2]:=(rfl)
@[go_sem] theorem uYk:entI prog 160=true:=by kernel_rfl
@[go_sem] theorem uXi:f160.results.toList=[.tmp 2]:=(rfl)
@[go_sem] theorem uYj:entI prog 162=true:=by kernel_rfl
@[go_sem] theorem uXh:f162.results.toList=[.tmp 2]:=(rfl)
@[go_sem] theorem uYi:entI prog 163=true:=by kernel_rfl
@[go_sem] theorem uXg:f163.results.toList=[.cell 4 27]:=(rfl)
@[go_sem] theorem uYh:entI prog 164=true:=by kernel_rfl
@[go_sem] theorem uXf:f164.results.toList=[.tmp 4]:=(rfl)
@[go_sem] theorem uYg:entI prog 165=true:=by kernel_rfl
@[go_sem] theorem uXe:f165.results.toList=[.tmp 2]:=(rfl)
@[go_sem] theorem uYf:entI prog 167=true:=by kernel_rfl
@[go_sem] theorem uXd:f167.results.toList=[.tmp 4]:=(rfl)
@[go_sem] theorem uYe:entI prog 169=true:=by kernel_rfl
@[go_sem] theorem uYd:entI prog 170=true:=by kernel_rfl
@[go_sem] theorem uYc:entI prog 171=true:=by kernel_rfl
@[go_sem] theorem uXc:f171.results.toList=[.tmp 2]:=(rfl)
@[go_sem] theorem uYb:entI prog 172=true:=by kernel_rfl
@[go_sem] theorem uXb:f172.results.toList=[.tmp 2]:=(rfl)
@[go_sem] theorem uYa:entI prog 174=true:=by kernel_rfl
@[go_sem] theorem uXa:f174.results.toList=[.tmp 3]:=(rfl)
@[go_sem] theorem uY9:entI prog 175=true:=by kernel_rfl
@[go_sem] theorem uX9:f175.results.toList=[.tmp 4]:=(rfl)
@[go_sem] theorem uY8:entI prog 176=true:=by kernel_rfl
@[go_sem] theorem uX8:f176.results.toList=[.tmp 4]:=(rfl)
@[go_sem] theorem uY7:entI prog 177=true:=by kernel_rfl
@[go_sem] theorem uX7:f177.results.toList=[.cell 2 29]:=(rfl)
@[go_sem] theorem uY6:entI prog 178=true:=by kernel_rfl
@[go_sem] theorem uX6:f178.results.toList=[.tmp 4]:=(rfl)
@[go_sem] theorem uY5:entI prog 179=true:=by kernel_rfl
@[go_sem] theorem uX5:f179.results.toList=[.cell 6 27]:=(rfl)
@[go_sem] theorem uY4:entI prog 182=true:=by kernel_rfl
@[go_sem] theorem uX4:f182.results.toList=[.tmp 4]:=(rfl)
@[go_sem] theorem uY3:entI prog 183=true:=by kernel_rfl
@[go_sem] theorem uX3:f183.results.toList=[.tmp 4]:=(rfl)
@[go_sem] theorem uY2:entI prog 184=true:=by kernel_rfl
@[go_sem] theorem uX2:f184.results.toList=[.tmp 6]:=(rfl)
@[go_sem] theorem uY1:entI prog 185=true:=by kernel_rfl
@[go_sem] theorem uX1:f185.results.toList=[.tmp 4]:=(rfl)
@[go_sem] theorem uY0:entI prog 186=true:=by kernel_rfl
@[go_sem] theorem uX0:f186.results.toList=[.tmp 6]:=(rfl)
@[go_sem] theorem uWz:entI prog 187=true:=by kernel_rfl
@[go_sem] theorem uZz:f187.results.toList=[.tmp 4]:=(rfl)
@[go_sem] theorem uWy:entI prog 189=true:=by kernel_rfl
@[go_sem] theorem uZy:f189.results.toList=[.tmp 2]:=(rfl)
@[go_sem] theorem uWx:entI prog 192=true:=by kernel_rfl
@[go_sem] theorem uZx:f192.results.toList=[.tmp 6]:=(rfl)
@[go_sem] theorem uWw:entI prog 193=true:=by kernel_rfl
@[go_sem] theorem uZw:f193.results.toList=[.tmp 6]:=(rfl)
@[go_sem] theorem uWv:entI prog 194=true:=by kernel_rfl
@[go_sem] theorem uZv:f194.results.toList=[.tmp 8]:=(rfl)
@[go_sem] theorem uWu:entI prog 195=true:=by kernel_rfl
@[go_sem] theorem uZu:f195.results.toList=[.tmp 2]:=(rfl)
@[go_sem] theorem uWt:entI prog 196=true:=by kernel_rfl
@[go_sem] theorem uZt:f196.results.toList=[]:=(rfl)
@[go_sem] theorem uZs:f197.results.toList=[.tmp 6]:=(rfl)
@[go_sem] theorem uZr:f198.results.toList=[.tmp 6]:=(rfl)
@[go_sem] theorem uZq:f199.results.toList=[.tmp 6]:=(rfl)
@[go_sem] theorem uZp:f200.results.toList=[.tmp 6]:=(rfl)
@[go_sem] theorem uZo:f201.results.toList=[.tmp 6]:=(rfl)
@[go_sem] theorem uZn:f202.results.toList=[.tmp 6]:=(rfl)
@[go_sem] theorem uZm:f203.results.toList=[.tmp 6]:=(rfl)
@[go_sem] theorem uZl:f204.results.toList=[.tmp 6]:=(rfl)
@[go_sem] theorem uZk:f205.results.toList=[.tmp 6]:=(rfl)
@[go_sem] theorem uZj:f206.results.toList=[.tmp 6]:=(rfl)
@[go_sem] theorem uZi:f207.results.toList=[.tmp 6]:=(rfl)
@[go_sem] theorem uWs:entI prog 208=true:=by kernel_rfl
@[go_sem] theorem uZh:f208.results.toList=[.cell 4 27]:=(rfl)
@[go_sem] theorem uZg:f209.results.toList=[.tmp 6]:=(rfl)
@[go_sem] theorem uZf:f210.results.toList=[.tmp 6]:=(rfl)
@[go_sem] theorem uWr:entI prog 211=true:=by kernel_rfl
@[go_sem] theorem uZe:f211.results.toList=[.tmp 6]:=(rfl)
@[go_sem] theorem uWq:entI prog 212=true:=by kernel_rfl
@[go_sem] theorem uZd:f212.results.toList=[.cell 4 27,.tmp 5]:=(rfl)
@[go_sem] theorem uWp:entI prog 213=true:=by kernel_rfl
@[go_sem] theorem uZc:f213.results.toList=[.tmp 4]:=(rfl)
@[go_sem] theorem uWo:entI prog 214=true:=by kernel_rfl
@[go_sem] theorem uZb:f214.results.toList=[.tmp 4]:=(rfl)
@[go_sem] theorem uWn:entI prog 215=true:=by kernel_rfl
@[go_sem] theorem uZa:f215.results.toList=[.tmp 2]:=(rfl)
@[go_sem] theorem uWm:entI prog 216=true:=by kernel_rfl
@[go_sem] theorem uZ9:f216.results.toList=[.tmp 2]:=(rfl)
@[go_sem] theorem uWl:entI prog 217=true:=by kernel_rfl
@[go_sem] theorem uZ8:f217.results.toList=[.cell 4 29]:=(rfl)
@[go_sem] theorem uWk:entI prog 218=true:=by kernel_rfl
@[go_sem] theorem uZ7:f218.results.toList=[.tmp 4]:=(rfl)
@[go_sem] theorem uWj:entI prog 219=true:=by kernel_rfl
@[go_sem] theorem uZ6:f219.results.toList=[.tmp 2]:=(rfl)
@[go_sem] theorem uWi:entI prog 220=true:=by kernel_rfl
@[go_sem] theorem uZ5:f220.results.toList=[.tmp 4]:=(rfl)
@[go_sem] theorem uWh:entI prog 221=true:=by kernel_rfl
@[go_sem] theorem uZ4:f221.results.toList=[.tmp 2]:=(rfl)
@[go_sem] theorem uZ3:f222.results.toList=[]:=(rfl)
@[go_sem] theorem uWg:entI prog 223=true:=by kernel_rfl
@[go_sem] theorem uZ2:f223.results.toList=[.tmp 4]:=(rfl)
@[go_sem] theorem uWf:entI prog 227=true:=by kernel_rfl
@[go_sem] theorem uZ1:f227.results.toList=[.tmp 4]:=(rfl)
@[go_sem] theorem uWe:entI prog 231=true:=by kernel_rfl
@[go_sem] theorem uZ0:f231.results.toList=[]:=(rfl)
@[go_sem] theorem uWd:entI prog 232=true:=by kernel_rfl
@[go_sem] theorem uQz:f232.results.toList=[.tmp 6]:=(rfl)
@[go_sem] theorem uWc:entI prog 233=true:=by kernel_rfl
@[go_sem] theorem uQy:f233.results.toList=[.tmp 4]:=(rfl)
@[go_sem] theorem uWb:entI prog 234=true:=by kernel_rfl
@[go_sem] theorem uQx:f234.results.toList=[.cell 4 29]:=(rfl)
@[go_sem] theorem uWa:entI prog 235=true:=by kernel_rfl
@[go_sem] theorem uQw:f235.results.toList=[.cell 3 29,.tmp 4]:=(rfl)
@[go_sem] theorem uW9:entI prog 236=true:=by kernel_rfl
@[go_sem] theorem uQv:f236.results.toList=[.tmp 2]:=(rfl)
@[go_sem] theorem uW8:entI prog 237=true:=by kernel_rfl
@[go_sem] theorem uQu:f237.results.toList=[.tmp 2]:=(rfl)
@[go_sem] theorem uW7:entI prog 248=true:=by kernel_rfl
@[go_sem] theorem uQt:f248.results.toList=[.tmp 2]:=(rfl)
@[go_sem] theorem uW6:entI prog 249=true:=by kernel_rfl
@[go_sem] theorem uW5:entI prog 251=true:=by kernel_rfl
@[go_sem] theorem uQs:f251.results.toList=[.tmp 4]:=(rfl)
@[go_sem] theorem uW4:entI prog 252=true:=by kernel_rfl
@[go_sem] theorem uQr:f252.results.toList=[.tmp 4]:=(rfl)
@[go_sem] theorem uW3:entI prog 254=true:=by kernel_rfl
@[go_sem] theorem uQq:f254.results.toList=[.tmp 6]:=(rfl)
@[go_sem] theorem uW2:entI prog 255=true:=by kernel_rfl
@[go_sem] theorem uQp:f255.results.toList=[.tmp 6]:=(rfl)
@[go_sem] theorem uW1:entI prog 256=true:=by kernel_rfl
@[go_sem] theorem uQo:f256.results.toList=[.tmp 4]:=(rfl)
@[go_sem] theorem uW0:entI prog 257=true:=by kernel_rfl
@[go_sem] theorem uQn:f257.results.toList=[]:=(rfl)
@[go_sem] theorem uVz:entI prog 258=true:=by kernel_rfl
@[go_sem] theorem uQm:f258.results.toList=[.tmp 2]:=(rfl)
@[go_sem] theorem uVy:entI prog 260=true:=by kernel_rfl
@[go_sem] theorem uQl:f260.results.toList=[.tmp 2]:=(rfl)
@[go_sem] theorem uVx:entI prog 261=true:=by kernel_rfl
@[go_sem] theorem uQk:f261.results.toList=[.cell 2 261]:=(rfl)
@[go_sem] theorem uVw:entI prog 262=true:=by kernel_rfl
@[go_sem] theorem uQj:f262.results.toList=[.tmp 6,.tmp 7]:=(rfl)
@[go_sem] theorem uVv:entI prog 263=true:=by kernel_rfl
@[go_sem] theorem uQi:f263.results.toList=[.cell 4 27]:=(rfl)
@[go_sem] theorem uVu:entI prog 264=true:=by kernel_rfl
@[go_sem] theorem uQh:f264.results.toList=[.tmp 2]:=(rfl)
@[go_sem] theorem uVt:entI prog 266=true:=by kernel_rfl
@[go_sem] theorem uQg:f266.results.toList=[.tmp 2]:=(rfl)
@[go_sem] theorem uVs:entI prog 270=true:=by kernel_rfl
@[go_sem] theorem uQf:f270.results.toList=[.tmp 2]:=(rfl)
@[go_sem] theorem uVr:entI prog 273=true:=by kernel_rfl
@[go_sem] theorem uQe:f273.results.toList=[.tmp 4]:=(rfl)
@[go_sem] theorem uVq:entI prog 274=true:=by kernel_rfl
@[go_sem] theorem uQd:f274.results.toList=[.tmp 4]:=(rfl)
@[go_sem] theorem uVp:entI prog 275=true:=by kernel_rfl
@[go_sem] theorem uQc:f275.results.toList=[]:=(rfl)
@[go_sem] theorem uVo:entI prog 276=true:=by kernel_rfl
@[go_sem] theorem uQb:f276.results.toList=[.cell 2 29]:=(rfl)
@[go_sem] theorem uVn:entI prog 277=true:=by kernel_rfl
@[go_sem] theorem uVm:entI prog 284=true:=by kernel_rfl
@[go_sem] theorem uQa:f284.results.toList=[.tmp 2]:=(rfl)
@[go_sem] theorem uVl:entI prog 286=true:=by kernel_rfl
@[go_sem] theorem uQ9:f286.results.toList=[.tmp 4]:=(rfl)
@[go_sem] theorem uVk:entI prog 287=true:=by kernel_rfl
@[go_sem] theorem uQ8:f287.results.toList=[.tmp 2]:=(rfl)
@[go_sem] theorem uVj:entI prog 288=true:=by kernel_rfl
@[go_sem] theorem uQ7:f288.results.toList=[.tmp 2]:=(rfl)
@[go_sem] theorem uVi:entI prog 290=true:=by kernel_rfl
@[go_sem] theorem uQ6:f290.results.toList=[.tmp 2]:=(rfl)
@[go_sem] theorem uVh:entI prog 291=true:=by kernel_rfl
@[go_sem] theorem uQ5:f291.results.toList=[.tmp 2]:=(rfl)
@[go_sem] theorem uVg:entI prog 292=true:=by kernel_rfl
@[go_sem] theorem uQ4:f292.results.toList=[.tmp 2]:=(rfl)
@[go_sem] theorem uVf:entI prog 293=true:=by kernel_rfl
@[go_sem] theorem uQ3:f293.results.toList=[.tmp 2]:=(rfl)
@[go_sem] theorem uVe:entI prog 294=true:=by kernel_rfl
@[go_sem] theorem uQ2:f294.results.toList=[.tmp 2]:=(rfl)
@[go_sem] theorem uVd:entI prog 295=true:=by kernel_rfl
@[go_sem] theorem uQ1:f295.results.toList=[.tmp 6,.tmp 7]:=(rfl)
@[go_sem] theorem uVc:entI prog 296=true:=by kernel_rfl
@[go_sem] theorem uQ0:f296.results.toList=[]:=(rfl)
@[go_sem] theorem uVb:entI prog 297=true:=by kernel_rfl
@[go_sem] theorem vUz:f297.results.toList=[.cell 4 29,.tmp 5]:=(rfl)
@[go_sem] theorem uVa:entI prog 298=true:=by kernel_rfl
@[go_sem] theorem vUy:f298.results.toList=[.tmp 4,.tmp 5]:=(rfl)
@[go_sem] theorem uV9:entI prog 310=true:=by kernel_rfl
@[go_sem] theorem vUx:f310.results.toList=[.cell 2 29,.tmp 3]:=(rfl)
@[go_sem] theorem uV8:entI prog 313=true:=by kernel_rfl
@[go_sem] theorem vUw:f313.results.toList=[.tmp 2]:=(rfl)
@[go_sem] theorem uV7:entI prog 314=true:=by kernel_rfl
@[go_sem] theorem vUv:f314.results.toList=[.tmp 4]:=(rfl)
@[go_sem] theorem uV6:entI prog 315=true:=by kernel_rfl
@[go_sem] theorem vUu:f315.results.toList=[.tmp 2]:=(rfl)
@[go_sem] theorem uV5:entI prog 317=true:=by kernel_rfl
@[go_sem] theorem vUt:f317.results.toList=[.tmp 2]:=(rfl)
@[go_sem] theorem uV4:entI prog 318=true:=by kernel_rfl
@[go_sem] theorem vUs:f318.results.toList=[]:=(rfl)
@[go_sem] theorem uV3:entI prog 319=true:=by kernel_rfl
@[go_sem] theorem vUr:f319.results.toList=[.tmp 4]:=(rfl)
@[go_sem] theorem uV2:entI prog 320=true:=by kernel_rfl
@[go_sem] theorem vUq:f320.results.toList=[.tmp 2]:=(rfl)
@[go_sem] theorem uV1:entI prog 334=true:=by kernel_rfl
@[go_sem] theorem vUp:f334.results.toList=[.tmp 4]:=(rfl)
