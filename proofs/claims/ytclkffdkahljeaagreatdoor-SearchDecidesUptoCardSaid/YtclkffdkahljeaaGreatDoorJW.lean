/- The library's contracts, laid at this pr -/
import Derived.Shelf.Strconv.Itoa3
import Derived.Shelf.SlIter.Nil
import Derived.Shelf.SortM.Plain
import Derived.Shelf.SortM.SortNone
import Derived.Test.YtclkffdkahljeaaGreatDoorJV
set_option linter.all false
namespace Go.Proofs
open Go.Shelf
def Tryz.laysM171_ren:Go.Shelf.Ren:=⟨λ| 171=>198|243=>241|246=>263|283=>276|284=>277|285=>278|286=>279|129=>163|317=>293|318=>294|319=>295|320=>296|337=>303|338=>304|n=>n,λ| 3=>3|9=>9|2=>2|4=>4|171=>333|0=>0|53=>264|37=>154|5=>5|173=>335|212=>347|51=>262|20=>20|213=>348|46=>185|232=>353|233=>354|n=>n,λ| 17=>2|18=>3|19=>4|n=>n⟩
theorem Tryz.laysM171:Go.Proofs.LaysM.n171 Tryz.prog Tryz.laysM171_ren:={
 mixed:=by kernel_rfl
 f129:=Tryz.func163.trans (congrArg some (by kernel_rfl))
 f171:=Tryz.func198.trans (congrArg some (by kernel_rfl))
 f243:=Tryz.func241.trans (congrArg some (by kernel_rfl))
 f246:=Tryz.func263.trans (congrArg some (by kernel_rfl))
 f283:=Tryz.func276.trans (congrArg some (by kernel_rfl))
 f284:=Tryz.func277.trans (congrArg some (by kernel_rfl))
 f285:=Tryz.func278.trans (congrArg some (by kernel_rfl))
 f286:=Tryz.func279.trans (congrArg some (by kernel_rfl))
 f317:=Tryz.func293.trans (congrArg some (by kernel_rfl))
 f318:=Tryz.func294.trans (congrArg some (by kernel_rfl))
 f319:=Tryz.func295.trans (congrArg some (by kernel_rfl))
 f320:=Tryz.func296.trans (congrArg some (by kernel_rfl))
 f337:=Tryz.func303.trans (congrArg some (by kernel_rfl))
 f338:=Tryz.func304.trans (congrArg some (by kernel_rfl))
 t0:=Tryz.underlying0
 a0:=Tryz.isAgg0
 z0:=Tryz.sizeOf0
 v0:=Tryz.zeroValue0
 t2:=Tryz.underlying2
 a2:=Tryz.isAgg2
 z2:=Tryz.sizeOf2
 v2:=Tryz.zeroValue2
 t3:=Tryz.underlying3
 a3:=Tryz.isAgg3
 z3:=Tryz.sizeOf3
 v3:=Tryz.zeroValue3
 t4:=Tryz.underlying4
 a4:=Tryz.isAgg4
 z4:=Tryz.sizeOf4
 v4:=Tryz.zeroValue4
 t5:=Tryz.underlying5
 a5:=Tryz.isAgg5
 z5:=Tryz.sizeOf5
 v5:=Tryz.zeroValue5
 t9:=Tryz.underlying9
 a9:=Tryz.isAgg9
 z9:=Tryz.sizeOf9
 v9:=Tryz.zeroValue9
 t20:=Tryz.underlying20
 a20:=Tryz.isAgg20
 z20:=Tryz.sizeOf20
 v20:=Tryz.zeroValue20
 t37:=Tryz.underlying154
 a37:=Tryz.isAgg154
 z37:=Tryz.sizeOf154
 v37:=Tryz.zeroValue154
 t46:=Tryz.underlying185
 a46:=Tryz.isAgg185
 z46:=Tryz.sizeOf185
 v46:=Tryz.zeroValue185
 t51:=Tryz.underlying262
 a51:=Tryz.isAgg262
 z51:=Tryz.sizeOf262
 v51:=Tryz.zeroValue262
 t53:=Tryz.underlying264
 a53:=Tryz.isAgg264
 z53:=Tryz.sizeOf264
 v53:=Tryz.zeroValue264
 t171:=Tryz.underlying333
 a171:=Tryz.isAgg333
 z171:=Tryz.sizeOf333
 v171:=Tryz.zeroValue333
 t173:=Tryz.underlying335
 a173:=Tryz.isAgg335
 z173:=Tryz.sizeOf335
 v173:=Tryz.zeroValue335
 t212:=Tryz.underlying347
 a212:=Tryz.isAgg347
 z212:=Tryz.sizeOf347
 v212:=Tryz.zeroValue347
 t213:=Tryz.underlying348
 a213:=Tryz.isAgg348
 z213:=Tryz.sizeOf348
 t232:=Tryz.underlying353
 a232:=Tryz.isAgg353
 z232:=Tryz.sizeOf353
 v232:=Tryz.zeroValue353
 t233:=Tryz.underlying354
 a233:=Tryz.isAgg354
 z233:=Tryz.sizeOf354
 v233:=Tryz.zeroValue354
 g17:=by kernel_rfl
 g18:=by kernel_rfl
 g19:=by kernel_rfl
 i0:=by kernel_rfl
 i2:=by kernel_rfl
 i3:=by kernel_rfl
 i4:=by kernel_rfl
 i5:=by kernel_rfl
 i9:=by kernel_rfl
 i20:=by kernel_rfl
 i37:=by kernel_rfl
 i46:=by kernel_rfl
 i51:=by kernel_rfl
 i53:=by kernel_rfl
 i171:=by kernel_rfl
 i173:=by kernel_rfl
 i212:=by kernel_rfl
 i232:=by kernel_rfl
 i233:=by kernel_rfl
 m17:=by kernel_rfl
 m18:=by kernel_rfl
 m19:=by kernel_rfl }
namespace Tryz
open Go.RowKit Go.Maps Go.Sort Go.Shelf
theorem strconv_Itoa (n:Int)(h0:-9223372036854775808<=n)(h1:n<=9223372036854775807)(w:World)(htab:Lib.TabIs Tryz.prog w "internal/strconv.uint64pow10" .u64 Lib.pow10Tab) :
  Calls Tryz.prog 198 #[.int .i64 n] w λe w'=>e=.returned (.string ⟨(Lib.itoa n).toArray⟩)/\∃k os,w'=grow (w.drewN k) os:=Any.strconv_Itoa laysM171 n h0 h1 w htab
end Tryz
end Go.Proofs
namespace Go.Proofs.Tryz
open Go Go.Iv Go.RowKit Go.Maps Go.Sort
variable {C:Cx}{X:WS}
theorem yWn (hg:Go.Iv.Good C X){w':World}(hb:Below X.w.heap.size X.w w'):Ext X { X with w:=w' } where
 os:=hb.os
 tape:=hb.tape
 output:=hb.output
 size:=hb.size
 lmono _:=Nat.le_refl _
 cells b i hi:=yXn (hb.block b (by
  rcases Nat.lt_or_ge b X.w.heap.size with h|h
  ·exact h
  ·rw[hg.Lnew b h] at hi;omega)) i
 keep b hb' _:=⟨hb.block b hb',rfl⟩
 dom _ _ h:=h
 shape b p hp:=(yZr (hb.block b (yKg hp))).trans hp
 d:=rfl
theorem zKu (hg:Go.Iv.Good C X){w':World}(hb:Below X.w.heap.size X.w w')(hdr:∃g,C.gl g≠none):Go.Iv.Good C { X with w:=w' } where
 ok b o ho:=(hg.ok b o ho).mono (hb.block b (hg.lt ho)) rfl (λ_ _ hv=>(yWn hg hb).vl hv)
 gl g x hx:=(yWn hg hb).v (hg.gl g x hx)
 B:=Nat.le_trans hg.B hb.size
 Lnew b h:=hg.Lnew b (Nat.le_trans hb.size h)
 gsh g x hx:=by obtain⟨T,z,hT⟩:=hg.gsh g x hx;exact⟨T,z,(yWn hg hb).shape _ _ hT⟩
 dr h:=hdr.elim λg hn=>absurd (h g) hn
def pow10L:List IV:=Lib.pow10Tab.map λz=>.raw (.int .u64 z)
theorem xWd (hg:Go.Iv.Good C X){g:Nat}(hgl:C.gl g=some (.agg pow10L)){P:Program}(hn:P.globalNamed "internal/strconv.uint64pow10" = some g):Lib.TabIs P X.w "internal/strconv.uint64pow10" .u64 Lib.pow10Tab:=by
 have hv:=hg.gl g _ hgl;obtain⟨T,z,hT⟩:=hg.gsh g _ hgl;simp only[shq] at hT;unfold Lib.TabIs World.var?;rw[hn];simp only[Option.bind_some];cases hh:X.w.heap[g]? with
 | none=>simp[hh] at hT
 | some o =>
  cases o<;>simp[hh] at hT;rename_i cs t f;simp only;congr 1;cases hv with
  | cptr ad x vs hsp hvl hL hc hvv =>
   have hlen:pow10L.length=20:=rfl;have hvl':vs.length=20:=hvl;apply Array.ext';simp only;apply List.ext_getElem?;intro i;by_cases hi:i<20
   ·have hr:=List.getElem?_eq_getElem (show i<vs.length by omega);have h1:=hc i _ hr;rw[Nat.zero_add,yQz hh] at h1;rw[h1];have hx:(IV.cells (.agg pow10L))[i]?=some (.raw (.int .u64 (Lib.pow10Tab[i]'(by show i<20;exact hi)))):=by
     show pow10L[i]?=_;unfold pow10L;rw[List.getElem?_map,List.getElem?_eq_getElem (show i<Lib.pow10Tab.length from hi)];rfl
    have h2:=V.raw_inv (hvv i _ _ hr hx);rw[h2,List.getElem?_map,List.getElem?_eq_getElem (show i<Lib.pow10Tab.length from hi)];rfl
   ·have hcs:cs.size=20:=by
     have:=hT.1.2;simpa[IV.cells,hlen] using this
    rw[List.getElem?_eq_none (by simp;omega),List.getElem?_eq_none (by rw[List.length_map];show 20<=i;omega)]
def ltN (a b:ByteArray):Prop:=a.data.toList<b.data.toList
theorem wW3 (a:ByteArray):¬ ltN a a:=List.lt_irrefl _
theorem xG0 {a b:ByteArray}(h:ltN a b):¬ ltN b a:=List.lt_asymm h
theorem xYy {a b c:ByteArray}(h:ltN a b)(k:ltN b c):ltN a c:=List.lt_trans h k
theorem xUx {a b:ByteArray}(h:a.data.toList=b.data.toList):a=b:=by
 cases a;cases b;congr 1;exact Array.ext' h
theorem xYz {a b:ByteArray}(h:¬ ltN a b)(hne:a≠b):ltN b a:=by
 unfold ltN at *;rcases List.le_total a.data.toList b.data.toList with h1|h1
 ·refine Classical.byContradiction λh2=>hne (xUx (List.le_antisymm h1 ?_));exact List.not_lt.1 h
 ·refine Classical.byContradiction λh2=>hne (xUx (List.le_antisymm (List.not_lt.1 h2) h1))
theorem xXn {a b:ByteArray}:Op.bytesLess a.data.toList b.data.toList=true↔ltN a b:=by
 rw[bytesLess_eq];simp[ltN]
end Go.Proofs.Tryz
namespace Go.Proofs.Tryz
set_option maxRecDepth 4000
open Go Go.Iv Go.Sort
open Go.RowKit (Below)
variable (gl:Nat->Option IV)
structure Gt (gl:Nat->Option IV):Prop where
 pow:gl 2=some (.agg pow10L)
theorem Gt.some {gl:Nat->Option IV}(G:Gt gl):∃g,gl g≠none:=⟨_,by rw[G.pow];simp⟩
theorem wKs (G:Gt gl)(n:Nat)(hn:n<=9223372036854775807)(st:ISt) :
  ICall prog gl 198 [.raw (.int .i64 n)] st (λr st'=>r=.raw (.string ⟨(Lib.decDigits n).toArray⟩)/\st'=st):=by
 intro B X rs hg hst hv;have hr:rs=[.int .i64 n]:=by
  match rs,hv with
  | [r],hv=>rw[V.raw_inv (hv.2 0 r _ rfl rfl)]
  | [],hv=>cases hv.1
  | _::_::_,hv=>cases hv.1
 subst hr;have hq:1+(Lib.decDigits n).length<=281474976710656:=by
  rw[Lib.decDigits_length];have:=yUn 18 n (by omega);omega
 refine (strconv_Itoa n (by omega) (by omega) X.w (xWd hg G.pow (by kernel_rfl))).mono ?_;rintro e w' ⟨rfl,k,os,rfl⟩;have hb:Below X.w.heap.size X.w (grow (X.w.drewN k) os):=⟨rfl,rfl,rfl,by simp[grow,World.drewN],λj hj=>by
  show (X.w.heap++os)[j]?=_;rw[Array.getElem?_append_left hj]⟩
 refine⟨_,rfl,{ X with w:=grow (X.w.drewN k) os },.raw (.string ⟨(Lib.itoa (n:Int)).toArray⟩),rfl,zKu hg hb G.some,yWn hg hb,?_,?_,hst⟩
 ·exact .raw (.string ⟨(Lib.itoa (n:Int)).toArray⟩) (by
   show ByteArray.size _<=_;rw[show Lib.itoa (n:Int)=Lib.decDigits n by unfold Lib.itoa;rw[if_neg (by omega)];simp];simp only[yQk];omega)
 ·rw[show Lib.itoa (n:Int)=Lib.decDigits n by unfold Lib.itoa;rw[if_neg (by omega)];simp]
