/- The library's contracts, laid at this pr -/
import Derived.Shelf.Strconv.Itoa3
import Derived.Shelf.SlIter.Nil
import Derived.Shelf.SortM.Plain
import Derived.Shelf.SortM.SortNone
import Derived.Test.YtakbihknkdpmgaaGreatDoorJV
set_option linter.all false
namespace Go.Proofs
open Go.Shelf
def Tryz.laysM171_ren:Go.Shelf.Ren:=⟨λ| 171=>320|243=>332|246=>336|283=>337|284=>338|285=>339|286=>340|129=>256|317=>341|318=>342|319=>343|320=>344|337=>345|338=>346|n=>n,λ| 3=>3|9=>9|2=>2|4=>4|171=>373|0=>0|53=>322|37=>156|5=>5|173=>375|212=>379|51=>320|20=>20|213=>380|46=>243|232=>381|233=>382|n=>n,λ| 17=>2|18=>3|19=>4|n=>n⟩
theorem Tryz.laysM171:Go.Proofs.LaysM.n171 Tryz.prog Tryz.laysM171_ren:={
 mixed:=by kernel_rfl
 f129:=Tryz.func256.trans (congrArg some (by kernel_rfl))
 f171:=Tryz.func320.trans (congrArg some (by kernel_rfl))
 f243:=Tryz.func332.trans (congrArg some (by kernel_rfl))
 f246:=Tryz.func336.trans (congrArg some (by kernel_rfl))
 f283:=Tryz.func337.trans (congrArg some (by kernel_rfl))
 f284:=Tryz.func338.trans (congrArg some (by kernel_rfl))
 f285:=Tryz.func339.trans (congrArg some (by kernel_rfl))
 f286:=Tryz.func340.trans (congrArg some (by kernel_rfl))
 f317:=Tryz.func341.trans (congrArg some (by kernel_rfl))
 f318:=Tryz.func342.trans (congrArg some (by kernel_rfl))
 f319:=Tryz.func343.trans (congrArg some (by kernel_rfl))
 f320:=Tryz.func344.trans (congrArg some (by kernel_rfl))
 f337:=Tryz.func345.trans (congrArg some (by kernel_rfl))
 f338:=Tryz.func346.trans (congrArg some (by kernel_rfl))
 t0:=Tryz.underlying0
 a0:=Tryz.isAgg0
 z0:=Tryz.sizeOf0
 v0:=Tryz.zeroValue0
 t2:=Tryz.underlying2
 a2:=Tryz.isAgg2
 z2:=Tryz.sizeOf2
 v2:=Tryz.zeroValue2
 t3:=Tryz.underlying3
 a3:=Tryz.isAgg3
 z3:=Tryz.sizeOf3
 v3:=Tryz.zeroValue3
 t4:=Tryz.underlying4
 a4:=Tryz.isAgg4
 z4:=Tryz.sizeOf4
 v4:=Tryz.zeroValue4
 t5:=Tryz.underlying5
 a5:=Tryz.isAgg5
 z5:=Tryz.sizeOf5
 v5:=Tryz.zeroValue5
 t9:=Tryz.underlying9
 a9:=Tryz.isAgg9
 z9:=Tryz.sizeOf9
 v9:=Tryz.zeroValue9
 t20:=Tryz.underlying20
 a20:=Tryz.isAgg20
 z20:=Tryz.sizeOf20
 v20:=Tryz.zeroValue20
 t37:=Tryz.underlying156
 a37:=Tryz.isAgg156
 z37:=Tryz.sizeOf156
 v37:=Tryz.zeroValue156
 t46:=Tryz.underlying243
 a46:=Tryz.isAgg243
 z46:=Tryz.sizeOf243
 v46:=Tryz.zeroValue243
 t51:=Tryz.underlying320
 a51:=Tryz.isAgg320
 z51:=Tryz.sizeOf320
 v51:=Tryz.zeroValue320
 t53:=Tryz.underlying322
 a53:=Tryz.isAgg322
 z53:=Tryz.sizeOf322
 v53:=Tryz.zeroValue322
 t171:=Tryz.underlying373
 a171:=Tryz.isAgg373
 z171:=Tryz.sizeOf373
 v171:=Tryz.zeroValue373
 t173:=Tryz.underlying375
 a173:=Tryz.isAgg375
 z173:=Tryz.sizeOf375
 v173:=Tryz.zeroValue375
 t212:=Tryz.underlying379
 a212:=Tryz.isAgg379
 z212:=Tryz.sizeOf379
 v212:=Tryz.zeroValue379
 t213:=Tryz.underlying380
 a213:=Tryz.isAgg380
 z213:=Tryz.sizeOf380
 t232:=Tryz.underlying381
 a232:=Tryz.isAgg381
 z232:=Tryz.sizeOf381
 v232:=Tryz.zeroValue381
 t233:=Tryz.underlying382
 a233:=Tryz.isAgg382
 z233:=Tryz.sizeOf382
 v233:=Tryz.zeroValue382
 g17:=by kernel_rfl
 g18:=by kernel_rfl
 g19:=by kernel_rfl
 i0:=by kernel_rfl
 i2:=by kernel_rfl
 i3:=by kernel_rfl
 i4:=by kernel_rfl
 i5:=by kernel_rfl
 i9:=by kernel_rfl
 i20:=by kernel_rfl
 i37:=by kernel_rfl
 i46:=by kernel_rfl
 i51:=by kernel_rfl
 i53:=by kernel_rfl
 i171:=by kernel_rfl
 i173:=by kernel_rfl
 i212:=by kernel_rfl
 i232:=by kernel_rfl
 i233:=by kernel_rfl
 m17:=by kernel_rfl
 m18:=by kernel_rfl
 m19:=by kernel_rfl }
def Tryz.keysL_ren:Go.Shelf.Ren:=⟨λ| 7=>188|10=>228|n=>n,λ| 23=>260|26=>9|3=>4|28=>258|0=>0|27=>257|33=>278|4=>4|n=>n,λ| n=>n⟩
theorem Tryz.keysL:Go.Proofs.SlLaysZ.n7 Tryz.prog Tryz.keysL_ren:={
 mixed:=by kernel_rfl
 f7:=⟨Tryz.f188.name,by decide,Tryz.func188.trans (congrArg some (by kernel_rfl))⟩
 f10:=⟨Tryz.f228.name,by decide,Tryz.func228.trans (congrArg some (by kernel_rfl))⟩
 t0:=Tryz.underlying0
 a0:=Tryz.isAgg0
 z0:=Tryz.sizeOf0
 v0:=Tryz.zeroValue0
 t4:=Tryz.underlying4
 a4:=Tryz.isAgg4
 z4:=Tryz.sizeOf4
 v4:=Tryz.zeroValue4
 t23:=Tryz.underlying260
 a23:=Tryz.isAgg260
 z23:=Tryz.sizeOf260
 v23:=Tryz.zeroValue260
 t26:=Tryz.underlying9
 a26:=Tryz.isAgg9
 z26:=Tryz.sizeOf9
 v26:=Tryz.zeroValue9
 t27:=Tryz.underlying257
 a27:=Tryz.isAgg257
 z27:=Tryz.sizeOf257
 v27:=Tryz.zeroValue257
 t28:=Tryz.underlying258
 a28:=Tryz.isAgg258
 z28:=Tryz.sizeOf258
 v28:=Tryz.zeroValue258
 t33:=Tryz.underlying278
 a33:=Tryz.isAgg278
 z33:=Tryz.sizeOf278
 v33:=Tryz.zeroValue278 }
def Tryz.sortedL_ren:Go.Shelf.Ren:=⟨λ| 6=>187|8=>226|9=>227|11=>279|13=>217|12=>280|23=>255|24=>256|14=>309|15=>310|16=>311|17=>312|18=>313|19=>314|20=>315|21=>316|22=>317|25=>327|26=>294|27=>295|28=>328|29=>329|30=>330|31=>335|n=>n,λ| 26=>9|28=>258|24=>207|0=>0|3=>3|37=>243|48=>320|50=>322|4=>4|40=>314|39=>313|45=>198|5=>5|9=>9|51=>342|55=>346|57=>361|58=>295|33=>278|n=>n,λ| n=>n⟩
theorem Tryz.sortedL:Go.Proofs.SlLaysZ.n6 Tryz.prog Tryz.sortedL_ren:={
 mixed:=by kernel_rfl
 f6:=⟨Tryz.f187.name,by decide,Tryz.func187.trans (congrArg some (by kernel_rfl))⟩
 f8:=⟨Tryz.f226.name,by decide,Tryz.func226.trans (congrArg some (by kernel_rfl))⟩
 f11:=⟨Tryz.f279.name,by decide,Tryz.func279.trans (congrArg some (by kernel_rfl))⟩
 t0:=Tryz.underlying0
 a0:=Tryz.isAgg0
 z0:=Tryz.sizeOf0
 v0:=Tryz.zeroValue0
 t24:=Tryz.underlying207
 a24:=Tryz.isAgg207
 z24:=Tryz.sizeOf207
 v24:=Tryz.zeroValue207
 t26:=Tryz.underlying9
 a26:=Tryz.isAgg9
 z26:=Tryz.sizeOf9
 v26:=Tryz.zeroValue9
 t28:=Tryz.underlying258
 a28:=Tryz.isAgg258
 z28:=Tryz.sizeOf258
 v28:=Tryz.zeroValue258
 i26:=by kernel_rfl }
def Tryz.sortL_ren:Go.Shelf.Ren:=⟨λ| 6=>227|8=>217|9=>280|19=>255|20=>256|21=>309|22=>310|23=>311|24=>312|25=>313|26=>314|27=>315|28=>316|29=>317|36=>327|31=>294|32=>295|37=>328|38=>329|39=>330|41=>335|n=>n,λ| 27=>207|29=>9|3=>3|32=>243|26=>207|0=>0|44=>320|46=>322|4=>4|36=>314|35=>313|41=>198|5=>5|9=>9|53=>342|57=>346|63=>361|64=>295|n=>n,λ| n=>n⟩
theorem Tryz.sortL:Go.Proofs.SlLaysM.n6 Tryz.prog Tryz.sortL_ren:={
 mixed:=by kernel_rfl
 f6:=⟨Tryz.f227.name,by decide,Tryz.func227.trans (congrArg some (by kernel_rfl))⟩
 f8:=Tryz.func217.trans (congrArg some (by kernel_rfl))
 f9:=⟨Tryz.f280.name,by decide,Tryz.func280.trans (congrArg some (by kernel_rfl))⟩
 f19:=Tryz.func255.trans (congrArg some (by kernel_rfl))
 f20:=Tryz.func256.trans (congrArg some (by kernel_rfl))
 f21:=⟨Tryz.f309.name,by decide,Tryz.func309.trans (congrArg some (by kernel_rfl))⟩
 f22:=⟨Tryz.f310.name,by decide,Tryz.func310.trans (congrArg some (by kernel_rfl))⟩
 f23:=⟨Tryz.f311.name,by decide,Tryz.func311.trans (congrArg some (by kernel_rfl))⟩
 f24:=⟨Tryz.f312.name,by decide,Tryz.func312.trans (congrArg some (by kernel_rfl))⟩
 f25:=⟨Tryz.f313.name,by decide,Tryz.func313.trans (congrArg some (by kernel_rfl))⟩
 f26:=⟨Tryz.f314.name,by decide,Tryz.func314.trans (congrArg some (by kernel_rfl))⟩
 f27:=⟨Tryz.f315.name,by decide,Tryz.func315.trans (congrArg some (by kernel_rfl))⟩
 f28:=⟨Tryz.f316.name,by decide,Tryz.func316.trans (congrArg some (by kernel_rfl))⟩
 f29:=⟨Tryz.f317.name,by decide,Tryz.func317.trans (congrArg some (by kernel_rfl))⟩
 f31:=Tryz.func294.trans (congrArg some (by kernel_rfl))
 f32:=Tryz.func295.trans (congrArg some (by kernel_rfl))
 f36:=⟨Tryz.f327.name,by decide,Tryz.func327.trans (congrArg some (by kernel_rfl))⟩
 f37:=⟨Tryz.f328.name,by decide,Tryz.func328.trans (congrArg some (by kernel_rfl))⟩
 f38:=⟨Tryz.f329.name,by decide,Tryz.func329.trans (congrArg some (by kernel_rfl))⟩
 f39:=⟨Tryz.f330.name,by decide,Tryz.func330.trans (congrArg some (by kernel_rfl))⟩
 f41:=⟨Tryz.f335.name,by decide,Tryz.func335.trans (congrArg some (by kernel_rfl))⟩
 t0:=Tryz.underlying0
 a0:=Tryz.isAgg0
 z0:=Tryz.sizeOf0
 v0:=Tryz.zeroValue0
 t3:=Tryz.underlying3
 a3:=Tryz.isAgg3
 z3:=Tryz.sizeOf3
 v3:=Tryz.zeroValue3
 t4:=Tryz.underlying4
 a4:=Tryz.isAgg4
 z4:=Tryz.sizeOf4
 v4:=Tryz.zeroValue4
 t5:=Tryz.underlying5
 a5:=Tryz.isAgg5
 z5:=Tryz.sizeOf5
 v5:=Tryz.zeroValue5
 t9:=Tryz.underlying9
 a9:=Tryz.isAgg9
 z9:=Tryz.sizeOf9
 v9:=Tryz.zeroValue9
 t26:=Tryz.underlying207
 a26:=Tryz.isAgg207
 z26:=Tryz.sizeOf207
 v26:=Tryz.zeroValue207
 t27:=Tryz.underlying207
 a27:=Tryz.isAgg207
 z27:=Tryz.sizeOf207
 v27:=Tryz.zeroValue207
 t29:=Tryz.underlying9
 a29:=Tryz.isAgg9
 z29:=Tryz.sizeOf9
 v29:=Tryz.zeroValue9
 t32:=Tryz.underlying243
 a32:=Tryz.isAgg243
 z32:=Tryz.sizeOf243
 v32:=Tryz.zeroValue243
 t35:=Tryz.underlying313
 a35:=Tryz.isAgg313
 z35:=Tryz.sizeOf313
 v35:=Tryz.zeroValue313
 t36:=Tryz.underlying314
 a36:=Tryz.isAgg314
 z36:=Tryz.sizeOf314
 v36:=Tryz.zeroValue314
 t41:=Tryz.underlying198
 a41:=Tryz.isAgg198
 z41:=Tryz.sizeOf198
 v41:=Tryz.zeroValue198
 t44:=Tryz.underlying320
 a44:=Tryz.isAgg320
 z44:=Tryz.sizeOf320
 v44:=Tryz.zeroValue320
 t46:=Tryz.underlying322
 a46:=Tryz.isAgg322
 z46:=Tryz.sizeOf322
 v46:=Tryz.zeroValue322
 t53:=Tryz.underlying342
 a53:=Tryz.isAgg342
 z53:=Tryz.sizeOf342
 v53:=Tryz.zeroValue342
 t57:=Tryz.underlying346
 a57:=Tryz.isAgg346
 z57:=Tryz.sizeOf346
 v57:=Tryz.zeroValue346
 t63:=Tryz.underlying361
 a63:=Tryz.isAgg361
 z63:=Tryz.sizeOf361
 v63:=Tryz.zeroValue361
 t64:=Tryz.underlying295
 a64:=Tryz.isAgg295
 z64:=Tryz.sizeOf295
 v64:=Tryz.zeroValue295 }
namespace Tryz
open Go.RowKit Go.Maps Go.Sort Go.Shelf
theorem strconv_Itoa (n:Int)(h0:-9223372036854775808<=n)(h1:n<=9223372036854775807)(w:World)(htab:Lib.TabIs Tryz.prog w "internal/strconv.uint64pow10" .u64 Lib.pow10Tab) :
  Calls Tryz.prog 320 #[.int .i64 n] w λe w'=>e=.returned (.string ⟨(Lib.itoa n).toArray⟩)/\∃k os,w'=grow (w.drewN k) os:=Any.strconv_Itoa laysM171 n h0 h1 w htab
theorem Ld (m:Nat):AnyZ.SortsIn Tryz.prog sortedL_ren Fence.wide m :=
 ⟨λblk off cap ss W hH hblk hsz=>callsIn_wide.2 (AnyM.slices_Sort_string sortL blk off cap ss W hH hblk hsz),
  λp cap W=>callsIn_wide.2 (AnyM.slices_Sort_string_none sortL p cap W)⟩
theorem Le (mb:Option Nat)(W:World):CallsIn Fence.wide 5 Tryz.prog 188 #[.map mb] W λe w' =>
  e=.returned (.func (.func 228) #[] #[.pointer (some ⟨W.heap.size,0,none⟩)])/\w'=W.alloc (.cells #[.map mb] 260) :=
 AnyZ.keys_in keysL Fence.wide 5 trivial rfl mb W
set_option maxHeartbeats 1000000 in
theorem Lf {H:Type}(w:World)(Bm b nn:Nat)(D0:DataW H)(R:Value->Option (DataW H×List MemPlace))(hB:Bm<w.heap.size)(hm:w.cell? ⟨Bm,0,none⟩=some (.map (some b)))(hown:w.ownsMap Tryz.prog 9 R b nn D0)(hmax:Maps.size D0<=maxLen)(hbytes:Maps.size D0*16<=140737488355328) :
  CallsIn Fence.wide 5 Tryz.prog 187 #[.func (.func 228) #[] #[.pointer (some ⟨Bm,0,none⟩)]] w λe w'=>∃(v:Value) (ss:List (List UInt8)),e=.returned v/\ss.Perm (strKeys D0) /\
   w'.ownsRow w.heap.size 9 1 v ss.length ((ss.mergeSort (λx y=>decide (x<=y))).map encStr)/\(v=.slice none 0 0↔ss=[])/\Below w.heap.size w w':=by
 have hseq:SeqGives Fence.wide 2 Tryz.prog 228 #[.pointer (some ⟨Bm,0,none⟩)] encStr (λss=>ss.Perm (strKeys D0)) (Maps.size D0) w :=
  AnyZ.keys_gives (ρ:=keysL_ren) { keysL with } Fence.wide _ trivial rfl (by omega) Bm b nn D0 _ hB hm hown
 exact AnyZ.sorted_in sortedL Fence.wide 5 trivial trivial trivial trivial rfl (by omega) (Ld _) (enters_of func227 (by kernel_rfl) rfl) 228 #[.pointer (some ⟨Bm,0,none⟩)] trivial (enters_of func228 (by kernel_rfl) rfl) _ _ hmax hbytes _ hseq
end Tryz
end Go.Proofs
namespace Go.Proofs.Tryz
open Go Go.Iv Go.RowKit Go.Maps Go.Sort
variable {C:Cx}{X:WS}
theorem oE (hg:Go.Iv.Good C X){w':World}(hb:Below X.w.heap.size X.w w'):Ext X { X with w:=w' } where
 os:=hb.os
 tape:=hb.tape
 output:=hb.output
 size:=hb.size
 lmono _:=Nat.le_refl _
 cells b i hi:=oo (hb.block b (by
  rcases Nat.lt_or_ge b X.w.heap.size with h|h
  ·exact h
  ·rw[hg.Lnew b h] at hi;omega)) i
 keep b hb' _:=⟨hb.block b hb',rfl⟩
 dom _ _ h:=h
 shape b p hp:=(np (hb.block b (qE hp))).trans hp
 d:=rfl
theorem xG (hg:Go.Iv.Good C X){w':World}(hb:Below X.w.heap.size X.w w')(hdr:∃g,C.gl g≠none):Go.Iv.Good C { X with w:=w' } where
 ok b o ho:=(hg.ok b o ho).mono (hb.block b (hg.lt ho)) rfl (λ_ _ hv=>(oE hg hb).vl hv)
 gl g x hx:=(oE hg hb).v (hg.gl g x hx)
 B:=Nat.le_trans hg.B hb.size
 Lnew b h:=hg.Lnew b (Nat.le_trans hb.size h)
 gsh g x hx:=by obtain⟨T,z,hT⟩:=hg.gsh g x hx;exact⟨T,z,(oE hg hb).shape _ _ hT⟩
 dr h:=hdr.elim λg hn=>absurd (h g) hn
theorem Lg (hg:Go.Iv.Good C X){w':World}(hb:Below X.w.heap.size X.w w')(hdr:∃g,C.gl g≠none){gb cap:Nat}{cur:Array Value}{e:TypeId}{ys:List IV}(hgb:X.w.heap.size<=gb)(hh:w'.heap[gb]?=some (.cells cur e (0,0)))(hes:∀y∈ys,y.cells.length=1)
  (hlen:ys.length<=140737488355328) (hcl:ys.length<=cap) (hcur:ys.length<=cur.size) (hv:∀(i:Nat) (r:Value) (c:IV),i<ys.length->cur[i]?=some r->(ys.flatMap IV.cells)[i]?=some c->∀B L w,V B L w r c) :
  let X':WS:={ w:=w',L:=λb=>if b=gb then ys.length else X.L b,st:=X.st,d:=X.d }
  Go.Iv.Good C X'/\Ext X X'/\C.v X' (.slice (some ⟨gb,0,none⟩) ys.length cap) (.sl ⟨true,.none,1⟩ ys):=by
 intro X';have he0:=oE hg hb;have hL:∀b,b<X.w.heap.size->X'.L b=X.L b:=λb h=>if_neg (by omega);have hlt:gb<w'.heap.size:=(Array.getElem?_eq_some_iff.1 hh).1;have he:Ext X X':=⟨hb.os,hb.tape,hb.output,hb.size,λb=>by
   show X.L b<=if b=gb then ys.length else X.L b
   split
   ·rename_i h;rw[hg.Lnew b (by omega)];exact Nat.zero_le _
   ·exact Nat.le_refl _,he0.cells,λb h hs=>⟨hb.block b h,hL b h⟩,λ_ _ h=>h,he0.shape,rfl⟩
 refine⟨⟨λb o ho=>(hg.ok b o ho).mono (hb.block b (hg.lt ho)) (hL b (hg.lt ho)) (λ_ _ hv=>he.vl hv),λg x hx=>he.v (hg.gl g x hx),Nat.le_trans hg.B hb.size,λb h=>by
   show (if b=gb then ys.length else X.L b)=0;have h':w'.heap.size<=b:=h;rw[if_neg (by omega)];exact hg.Lnew b (Nat.le_trans hb.size h'),λg x hx=>by obtain⟨T,z,hT⟩:=hg.gsh g x hx;exact⟨T,z,he.shape _ _ hT⟩,λh=>hdr.elim λg hn=>absurd (h g) hn⟩,he,?_⟩
 have hfl:=gD ys hes;rw[Nat.mul_one] at hfl;refine .sl (some ⟨gb,0,none⟩) cap _ _ e (cur.toList.take ys.length) trivial hlen hcl hes (by simp;omega) (λg h=>by cases h) (λ_ ad ha=>?_) (λ_=>⟨_,rfl,rfl,?_,λi r hr=>?_⟩) (λi r c hr hc=>?_)
 ·cases ha;refine⟨Nat.le_trans hg.B hgb,Nat.zero_mod _,?_⟩;show (shq w' gb).map (·.1.1)=some e;simp only[shq,hh];rfl
 ·show 0+(cur.toList.take ys.length).length<=if gb=gb then ys.length else X.L gb
  rw[if_pos rfl];simp;omega
 ·rw[Nat.zero_add,jn hh];rw[List.getElem?_take] at hr;split at hr
  ·exact hr
  ·cases hr
 ·rw[List.getElem?_take] at hr;split at hr
  ·rename_i hi;exact hv i r c hi (by simpa using hr) hc _ _ _
  ·cases hr
def pow10L:List IV:=Lib.pow10Tab.map λz=>.raw (.int .u64 z)
theorem Lh (hg:Go.Iv.Good C X){g:Nat}(hgl:C.gl g=some (.agg pow10L)){P:Program}(hn:P.globalNamed "internal/strconv.uint64pow10" = some g):Lib.TabIs P X.w "internal/strconv.uint64pow10" .u64 Lib.pow10Tab:=by
 have hv:=hg.gl g _ hgl;obtain⟨T,z,hT⟩:=hg.gsh g _ hgl;simp only[shq] at hT;unfold Lib.TabIs World.var?;rw[hn];simp only[Option.bind_some];cases hh:X.w.heap[g]? with
 | none=>simp[hh] at hT
 | some o =>
  cases o<;>simp[hh] at hT;rename_i cs t f;simp only;congr 1;cases hv with
  | cptr ad x vs hsp hvl hL hc hvv =>
   have hlen:pow10L.length=20:=rfl;have hvl':vs.length=20:=hvl;apply Array.ext';simp only;apply List.ext_getElem?;intro i;by_cases hi:i<20
   ·have hr:=List.getElem?_eq_getElem (show i<vs.length by omega);have h1:=hc i _ hr;rw[Nat.zero_add,jn hh] at h1;rw[h1];have hx:(IV.cells (.agg pow10L))[i]?=some (.raw (.int .u64 (Lib.pow10Tab[i]'(by show i<20;exact hi)))):=by
     show pow10L[i]?=_;unfold pow10L;rw[List.getElem?_map,List.getElem?_eq_getElem (show i<Lib.pow10Tab.length from hi)];rfl
    have h2:=dK (hvv i _ _ hr hx);rw[h2,List.getElem?_map,List.getElem?_eq_getElem (show i<Lib.pow10Tab.length from hi)];rfl
   ·have hcs:cs.size=20:=by
     have:=hT.1.2;simpa[IV.cells,hlen] using this
    rw[List.getElem?_eq_none (by simp;omega),List.getElem?_eq_none (by rw[List.length_map];show 20<=i;omega)]
def ltN (a b:ByteArray):Prop:=a.data.toList<b.data.toList
def xH (l r:List ByteArray):Prop:=r.Pairwise ltN/\∀x,x∈r↔x∈l
theorem Li (a:ByteArray):¬ ltN a a:=List.lt_irrefl _
theorem Lj {a b:ByteArray}(h:ltN a b):¬ ltN b a:=List.lt_asymm h
theorem Ll {a b c:ByteArray}(h:ltN a b)(k:ltN b c):ltN a c:=List.lt_trans h k
theorem pR {a b:ByteArray}(h:a.data.toList=b.data.toList):a=b:=by
 cases a;cases b;congr 1;exact Array.ext' h
theorem Lm {a b:ByteArray}(h:¬ ltN a b)(hne:a≠b):ltN b a:=by
 unfold ltN at *;rcases List.le_total a.data.toList b.data.toList with h1|h1
 ·refine Classical.byContradiction λh2=>hne (pR (List.le_antisymm h1 ?_));exact List.not_lt.1 h
 ·refine Classical.byContradiction λh2=>hne (pR (List.le_antisymm (List.not_lt.1 h2) h1))
theorem Da {a b:ByteArray}:Op.bytesLess a.data.toList b.data.toList=true↔ltN a b:=by
 rw[bytesLess_eq];simp[ltN]
def pS (es:List (Value×IV))(ks:List ByteArray):Prop:=es.map (·.1)=ks.map .string/\ks.Nodup
theorem Lo (n:ByteArray)(v u:IV)(es:List (Value×IV)):updI (.string n) v ((.string n,u)::es)=(.string n,v)::es:=by simp[updI,gN]
theorem Lp {n k:ByteArray}(h:n≠k)(v u:IV)(es:List (Value×IV)):updI (.string n) v ((.string k,u)::es)=(.string k,u)::updI (.string n) v es:=by simp[updI,gN,h]
theorem Lq {es:List (Value×IV)}{ks:List ByteArray}(n:ByteArray)(v:IV)(h:pS es ks):pS (updI (.string n) v es) (if memB ks n=true then ks else ks++[n]):=by
 induction es generalizing ks with
 | nil =>
  have:ks=[]:=by have:=h.1;simpa using this.symm
  subst this;exact⟨rfl,by simp[memB]⟩
 | cons e es ih =>
  obtain⟨x,u⟩:=e;obtain⟨h1,h2⟩:=h;cases ks with
  | nil=>simp at h1
  | cons k ks =>
   simp only[List.map_cons,List.cons.injEq] at h1;obtain⟨hx,h1⟩:=h1;subst hx;have hn:=List.nodup_cons.1 h2;by_cases hk:n=k
   ·subst hk;rw[Lo,if_pos (yJj.2 (List.mem_cons_self ..))];exact⟨by simp[h1],h2⟩
   ·rw[Lp hk];have:=ih ⟨h1,hn.2⟩;by_cases hm:memB ks n=true
    ·rw[if_pos hm] at this;rw[if_pos (yJj.2 (List.mem_cons_of_mem _ (yJj.1 hm)))];exact⟨by simp[this.1],h2⟩
    ·rw[if_neg hm] at this;rw[yJj] at hm;rw[if_neg (λh=>by rw[yJj,List.mem_cons] at h;exact h.elim hk hm)];refine⟨by simp[this.1],?_⟩;rw[List.cons_append,List.nodup_cons];refine⟨?_,this.2⟩;simp only[List.mem_append,List.mem_singleton,not_or];exact⟨hn.1,λhe=>hk he.symm⟩
theorem Lr (l:List ByteArray):∃ks,pS (setE l) ks/\(∀x,x∈ks↔x∈l)/\ks.length<=l.length:=by
 suffices h:∀(l:List ByteArray) (es:List (Value×IV)) (ks:List ByteArray),pS es ks->∃ks',pS (l.foldl (λes s=>updI (.string s) (.raw (.bool true)) es) es) ks'/\(∀x,x∈ks'↔x∈ks\/x∈l)/\ks'.length<=ks.length+l.length by
  obtain⟨ks,h1,h2,h3⟩:=h l [] [] ⟨rfl,List.nodup_nil⟩;exact⟨ks,h1,λx=>by simpa using h2 x,by simpa using h3⟩
 intro l
 induction l with
 | nil=>intro es ks h;exact⟨ks,h,by simp,by simp⟩
 | cons a l ih =>
  intro es ks h;obtain⟨ks',h1,h2,h3⟩:=ih _ _ (Lq a (.raw (.bool true)) h);refine⟨ks',h1,λx=>?_,?_⟩
  ·rw[h2];by_cases ha:a∈ks
   ·rw[if_pos (yJj.2 ha)];simp only[List.mem_cons];constructor
    ·rintro (h|h)<;>simp[h]
    ·rintro (h|rfl|h)
     ·exact .inl h
     ·exact .inl ha
     ·exact .inr h
   ·rw[if_neg (λh=>ha (yJj.1 h))];simp only[List.mem_append,List.mem_cons,List.not_mem_nil,or_false];constructor
    ·rintro ((h|h)|h)<;>simp[h]
    ·rintro (h|h|h)<;>simp[h]
  ·split at h3
   ·simp only[List.length_cons];omega
   ·simp only[lLa,List.length_cons,List.length_nil] at h3 ⊢;omega
end Go.Proofs.Tryz
namespace Go.Proofs.Tryz
set_option maxRecDepth 4000
open Go Go.Iv Go.Sort
open Go.RowKit (Below)
variable (gl:Nat->Option IV)
structure Gt (gl:Nat->Option IV):Prop where
 pow:gl 2=some (.agg pow10L)
theorem Gt.some {gl:Nat->Option IV}(G:Gt gl):∃g,gl g≠none:=⟨_,by rw[G.pow];simp⟩
theorem Db (G:Gt gl)(n:Nat)(hn:n<=9223372036854775807)(st:ISt) :
  ICall prog gl 320 [.raw (.int .i64 n)] st (λr st'=>r=.raw (.string ⟨(Lib.decDigits n).toArray⟩)/\st'=st):=by
 intro B X rs hg hst hv;have hr:rs=[.int .i64 n]:=by
  match rs,hv with
  | [r],hv=>rw[dK (hv.2 0 r _ rfl rfl)]
  | [],hv=>cases hv.1
  | _::_::_,hv=>cases hv.1
 subst hr;have hq:1+(Lib.decDigits n).length<=281474976710656:=by
  rw[Lib.decDigits_length];have:=xC 18 n (by omega);omega
 refine (strconv_Itoa n (by omega) (by omega) X.w (Lh hg G.pow (by kernel_rfl))).mono ?_;rintro e w' ⟨rfl,k,os,rfl⟩;have hb:Below X.w.heap.size X.w (grow (X.w.drewN k) os):=⟨rfl,rfl,rfl,by simp[grow,World.drewN],λj hj=>by
  show (X.w.heap++os)[j]?=_;rw[Array.getElem?_append_left hj]⟩
 refine⟨_,rfl,{ X with w:=grow (X.w.drewN k) os },.raw (.string ⟨(Lib.itoa (n:Int)).toArray⟩),rfl,xG hg hb G.some,oE hg hb,?_,?_,hst⟩
 ·exact .raw (.string ⟨(Lib.itoa (n:Int)).toArray⟩) (by
   show ByteArray.size _<=_;rw[show Lib.itoa (n:Int)=Lib.decDigits n by unfold Lib.itoa;rw[if_neg (by omega)];simp];simp only[pF];omega)
 ·rw[show Lib.itoa (n:Int)=Lib.decDigits n by unfold Lib.itoa;rw[if_neg (by omega)];simp]
def xI (b:Nat):IV:=.fn (.func 228) [] [.raw (.pointer (some ⟨b,0,none⟩))]
theorem Ls (m:Nat)(st:ISt) :
  ICall prog gl 188 [.raw (.map (some m))] st (λr st'=>∃b,st b=none/\r=xI b/\st'=st.put b (some (.box [.raw (.map (some m))]))):=by
 intro B X rs hg hst hv;have hr:rs=[.map (some m)]:=by
  match rs,hv with
  | [r],hv=>rw[dK (hv.2 0 r _ rfl rfl)]
  | [],hv=>cases hv.1
  | _::_::_,hv=>cases hv.1
 subst hr;refine ((callsIn_wide (n:=5)).1 (Le (some m) X.w)).mono ?_;rintro e w' ⟨rfl,rfl⟩;have hnone:X.st X.w.heap.size=none:=by
  cases hs:X.st X.w.heap.size with
  | none=>rfl
  | some o=>have:=hg.lt hs;omega
 have hso:∀i,some (IObj.box [.raw (.map (some m))])=some i->ObjOk ⟨prog,gl,B⟩ (X.new (.cells #[.map (some m)] 260) 0 (some (.box [.raw (.map (some m))]))) X.w.heap.size i:=by
  intro i hi;cases hi;exact⟨by simp[WS.new],_,_,iL _ _,VL.cons (.raw _ trivial) VL.nil⟩
 refine⟨_,rfl,X.new (.cells #[.map (some m)] 260) 0 (some (.box [.raw (.map (some m))])),_,rfl,hg.new _ _ _ hso,hg.new_ext _ _ _,?_,X.w.heap.size,by rw[<- hst];exact hnone,rfl,?_⟩
 ·exact .fn _ [] [] rfl (λi r c h=>by simp at h) [_] [_] rfl (λi r c h1 h2=>by
   match i,h1,h2 with
   | 0,h1,h2=>cases h1;cases h2;exact .raw _ trivial)
 ·funext b;simp only[WS.new,ISt.put_apply,hst]
theorem Dc {H:Type}(x:Lit×DataW H):∀l,(DataW.insert x l).Perm (x::l)
 | []=>List.Perm.refl _
 | y::r=>by
  simp only[DataW.insert];split
  ·exact List.Perm.refl _
  ·exact ((Dc x r).cons y).trans (List.Perm.swap x y r)
theorem Dd {H:Type}:∀l:List (Lit×DataW H),(l.foldr DataW.insert []).Perm l
 | []=>List.Perm.refl _
 | x::l=>(Dc x _).trans ((Dd l).cons x)
theorem Lt (G:Gt gl)(m b:Nat)(es:List (Value×IV))(ks:List ByteArray)(hk:pS es ks)(hs:∀k∈ks,k.size<=281474976710656)(hl:ks.length<=1099511627776)(st:ISt)(hb:st b=some (.box [.raw (.map (some m))]))(hm:st m=some (.map .str es)) :
  ICall prog gl 187 [xI b] st (λr st'=>∃tg l,r=.sl tg (strI l)/\okEs tg 1/\xH ks l/\st'=st):=by
 intro B X rs hg hst hv;subst hst;have hr:rs=[.func (.func 228) #[] #[.pointer (some ⟨b,0,none⟩)]]:=by
  match rs,hv with
  | [r],hv =>
   obtain⟨r1,r2,rfl,h1,h2⟩:=ja (hv.2 0 r _ rfl rfl)
   match r1,h1 with
   | [],_ =>
    match r2,h2 with
    | [q],h2=>rw[dK (h2.2 0 q _ rfl rfl)]
    | [],h2=>cases h2.1
    | _::_::_,h2=>cases h2.1
   | _::_,h1=>cases h1.1
  | [],hv=>cases hv.1
  | _::_::_,hv=>cases hv.1
 subst hr;obtain⟨hLb,cb,Tb,hhb,hvb⟩:=hg.ok b _ hb;obtain⟨hLm,hkf,_,ents,clock,hhm,hkeys,hvals,hborn,hinc⟩:=hg.ok m _ hm;have hcell:X.w.cell? ⟨b,0,none⟩=some (.map (some m)):=by
  rw[jn hhb];have h0:cb.toList.length=1:=hvb.1;have hr:=List.getElem?_eq_getElem (show 0<cb.toList.length by omega);rw[hr,dK (hvb.2 0 _ _ hr rfl)]
 have hkl:ents.toList.map (·.key)=ks.map .string:=hkeys.trans hk.1
 let R:Value->Option (DataW Unit×List MemPlace):=λ_=>some (.nil,[])
 have hkey:∀x∈ents.toList,∃s∈ks,x.key=.string s:=λx hx=>by
  have:x.key∈ks.map Value.string:=by rw[<- hkl];exact List.mem_map.2 ⟨x,hx,rfl⟩
  obtain⟨s,hs,he⟩:=List.mem_map.1 this;exact⟨s,hs,he.symm⟩
 have hko:∀s∈ks,keyOf prog 9 (.string s)=some (.string s.data.toList):=λs hsm=>by
  have hu:prog.underlying 9=some .string:=by kernel_rfl
  have:=hs s hsm;unfold keyOf mapKey;rw[hu];simp only;rw[if_pos (by unfold maxLen;omega)]
 have hlen:ents.size=ks.length:=by
  have:=congrArg List.length hkl;simpa using this
 have Ft:WideElems.Fit prog 9 R ents clock:=by
  refine⟨by unfold maxLen;omega,⟨hborn,?_,?_⟩,λx hx=>?_⟩
  ·exact List.pairwise_map.2 (hinc.imp λh=>Nat.ne_of_lt h)
  ·rw[hkl];exact List.pairwise_map.2 (hk.2.imp λh he=>h (by injection he))
  ·obtain⟨s,hsm,he⟩:=hkey x hx;exact⟨_,WideElems.rd_mk (val:=x.val) (born:=x.born) (by rw[he];exact hko s hsm) rfl⟩
 have hrg:∀x∈ents.toList,∀s∈ks,x.key=.string s->strOf (WideElems.rg prog 9 R x).1=s.data.toList:=λx hx s hsm he=>by
  have:=WideElems.rd_mk (P:=prog) (k:=9) (R:=R) (val:=x.val) (born:=x.born) (key:=x.key) (by rw[he];exact hko s hsm) rfl;rw[WideElems.rg_of this];rfl
 have hown:X.w.ownsMap prog 9 R m ents.size (.map ((ents.toList.map (WideElems.rg prog 9 R)).foldr DataW.insert [])):=⟨ents,clock,hhm,Ft,Nat.le_refl _,rfl⟩
 have hsz:=hown.size_le;have hbl:b<X.w.heap.size:=hg.lt hb;refine ((callsIn_wide (n:=5)).1 (Lf X.w b m _ _ R hbl hcell hown (by unfold maxLen;omega) (by omega))).mono ?_;rintro e w' ⟨v,ss,rfl,hperm,hrow,hnil,hbelow⟩;have hp1:(strKeys (DataW.map (H:=Unit) ((ents.toList.map (WideElems.rg prog 9 R)).foldr DataW.insert []))).Perm (ks.map λs=>s.data.toList):=by
  show (List.map (λp:Lit×DataW Unit=>strOf p.1) _).Perm _;refine ((Dd _).map _).trans ?_;rw[List.map_map];have:ents.toList.map ((λp:Lit×DataW Unit=>strOf p.1) ∘ WideElems.rg prog 9 R)=ks.map λs=>s.data.toList:=by
   have h2:ents.toList.map ((λp:Lit×DataW Unit=>strOf p.1) ∘ WideElems.rg prog 9 R)=(ents.toList.map (·.key)).map (λv=>match v with|.string s=>s.data.toList|_=>[]):=by
    rw[List.map_map];refine List.map_congr_left λx hx=>?_;obtain⟨s,hsm,he⟩:=hkey x hx;simp only[Function.comp];rw[hrg x hx s hsm he,he]
   rw[h2,hkl,List.map_map];rfl
  rw[this]
 have hp2:=(List.mergeSort_perm ss leB).trans (hperm.trans hp1);have hsort:(ss.mergeSort leB).Pairwise (·<·):=by
  have tr:∀a b c:List UInt8,leB a b=true->leB b c=true->leB a c=true:=λa b c h1 h2=>by simp only[leB,dTe] at *;exact List.le_trans h1 h2
  have to:∀a b:List UInt8,(leB a b || leB b a)=true:=λa b=>by simp only[leB,Bool.or_eq_true,dTe];exact List.le_total a b
  have h1:=List.pairwise_mergeSort tr to ss;have h2:(ss.mergeSort leB).Nodup:=hp2.nodup_iff.2 (List.pairwise_map.2 (hk.2.imp λh he=>h (pR he)));refine (h1.and h2).imp λh=>?_;have h3:=of_decide_eq_true h.1;exact Classical.byContradiction λhn=>h.2 (List.le_antisymm h3 (List.not_lt.1 hn))
 generalize hS:ss.mergeSort leB=S at hp2 hsort;have hlenS:S.length=ks.length:=by rw[hp2.length_eq,List.length_map]
 have hlenss:ss.length=S.length:=by rw[<- hS,List.length_mergeSort]
 have hrow':w'.ownsRow X.w.heap.size 9 1 v ss.length (S.map encStr):=by rw[<- hS];exact hrow
 have hSO:xH ks (S.map λx=>(⟨x.toArray⟩:ByteArray)):=by
  refine⟨List.pairwise_map.2 (hsort.imp λh=>?_),λx=>?_⟩
  ·simpa[ltN] using h
  ·rw[List.mem_map];constructor
   ·rintro⟨y,hy,rfl⟩;obtain⟨s,hsm,he⟩:=List.mem_map.1 (hp2.mem_iff.1 hy);have:s=⟨y.toArray⟩:=pR (by rw[he]);exact this▸hsm
   ·intro hx;exact⟨x.data.toList,hp2.mem_iff.2 (List.mem_map.2 ⟨x,hx,rfl⟩),pR (by simp)⟩
 have hsizes:∀y∈S,y.length<=281474976710656:=λy hy=>by
  obtain⟨s,hsm,he⟩:=List.mem_map.1 (hp2.mem_iff.1 hy);have:=hs s hsm;rw[<- he,Array.length_toList];exact this
 obtain⟨hxl,hcase⟩:=hrow';rcases hcase with⟨rfl,h0⟩|⟨gb,cap,cur,rfl,hge,hheap,hncap,hcapm,hcs,htake⟩
 ·have hSn:S=[]:=List.eq_nil_of_length_eq_zero (by omega);subst hSn;refine⟨_,rfl,{ X with w:=w' },.sl ⟨true,.nil,1⟩ [],rfl,xG hg hbelow G.some,oE hg hbelow,?_,⟨true,.nil,1⟩,[],rfl,.inr rfl,hSO,rfl⟩;exact .sl none 0 _ [] 0 [] ⟨rfl,rfl,rfl⟩ (by simp) (Nat.le_refl _) (by simp) (by simp) (λg h=>by cases h) (λ_ ad h=>by cases h) (λh=>absurd rfl h) (λi r c h=>by simp at h)
 ·have hfl:∀(m:List ByteArray),(strI m).flatMap IV.cells=strI m:=λm=>by
   induction m with
   | nil=>rfl
   | cons a m ih=>simp only[strI,List.map_cons,List.flatMap_cons] at ih ⊢;rw[ih];rfl
  have hbs:=Lg (cap:=cap) (ys:=strI (S.map λx=>(⟨x.toArray⟩:ByteArray))) hg hbelow G.some hge hheap (λy hy=>by
    simp only[strI,List.mem_map] at hy;obtain⟨s,_,rfl⟩:=hy;rfl) (by simp[strI];omega) (by simp[strI];omega) (by simp[strI];omega) (λi r c hi hr hc B L w=>by
    rw[hfl] at hc;have hi':i<S.length:=by simpa[strI] using hi
    have h1:(S.map encStr)[i]?=some r:=by
     rw[<- htake,List.getElem?_take,if_pos (by omega)];simpa using hr
    rw[List.getElem?_map,List.getElem?_eq_getElem hi'] at h1;simp only[strI,List.map_map,List.getElem?_map,List.getElem?_eq_getElem hi',Option.map_some,Option.some.injEq,Function.comp] at h1 hc;subst h1 hc;refine .raw _ ?_;show ByteArray.size _<=_;rw[pF];exact hsizes _ (List.getElem_mem hi'))
  obtain⟨h1,h2,h3⟩:=hbs;rw[show ss.length=(strI (S.map λx=>(⟨x.toArray⟩:ByteArray))).length by simp[strI];omega];exact⟨_,rfl,_,_,rfl,h1,h2,h3,⟨true,.none,1⟩,_,rfl,.inr rfl,hSO,rfl⟩
