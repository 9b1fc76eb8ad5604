/- The layer of ideal values, part A: ideal -/
import Derived.OrdersIn
import Derived.Laws.CopyRow
import Derived.RangeFuncRecord
import Derived.DeepKeys4
set_option linter.all false
theorem la:type_of% @Array.getD_eq_getD_getElem?:=@Array.getD_eq_getD_getElem?
theorem mu:type_of% @Array.getElem?_eq_getElem:=@Array.getElem?_eq_getElem
theorem iF:type_of% @Array.getElem?_eq_some_iff:=@Array.getElem?_eq_some_iff
theorem jR:type_of% @Array.length_toList:=@Array.length_toList
theorem lb:type_of% @Array.size_setIfInBounds:=@Array.size_setIfInBounds
theorem kN:type_of% @Bool.eq_iff_iff:=@Bool.eq_iff_iff
theorem oe:type_of% @Bool.false_and:=@Bool.false_and
theorem lZ:type_of% @Bool.not_eq_true':=@Bool.not_eq_true'
theorem mw:type_of% @Bool.not_true:=@Bool.not_true
theorem lf:type_of% @Bool.or_eq_true:=@Bool.or_eq_true
theorem g_:type_of% @Bool.true_and:=@Bool.true_and
theorem jv:type_of% @Classical.byContradiction:=@Classical.byContradiction
theorem kc:type_of% @Int.cast_ofNat_Int:=@Int.cast_ofNat_Int
theorem jw:type_of% @Int.le_refl:=@Int.le_refl
theorem kd:type_of% @Int.toNat_natCast:=@Int.toNat_natCast
theorem jx:type_of% @Int.toNat_zero:=@Int.toNat_zero
theorem eP:type_of% @List.all_eq_true:=@List.all_eq_true
theorem gw:type_of% @List.any_eq_true:=@List.any_eq_true
theorem en:type_of% @List.append_assoc:=@List.append_assoc
theorem eo:type_of% @List.append_nil:=@List.append_nil
theorem ed:type_of% @List.cons_append:=@List.cons_append
theorem jy:type_of% @List.count_append:=@List.count_append
theorem lg:type_of% @List.count_pos_iff:=@List.count_pos_iff
theorem fa:type_of% @List.drop_eq_getElem_cons:=@List.drop_eq_getElem_cons
theorem eG:type_of% @List.eq_nil_of_length_eq_zero:=@List.eq_nil_of_length_eq_zero
theorem ke:type_of% @List.ext_getElem?:=@List.ext_getElem?
theorem kg:type_of% @List.filter_cons:=@List.filter_cons
theorem iS:type_of% @List.find?_append:=@List.find?_append
theorem kh:type_of% @List.find?_cons:=@List.find?_cons
theorem jz:type_of% @List.find?_eq_none:=@List.find?_eq_none
theorem jA:type_of% @List.flatMap_append:=@List.flatMap_append
theorem eC:type_of% @List.flatMap_cons:=@List.flatMap_cons
theorem jB:type_of% @List.foldl_cons:=@List.foldl_cons
theorem fw:type_of% @List.getElem?_append_left:=@List.getElem?_append_left
theorem fD:type_of% @List.getElem?_append_right:=@List.getElem?_append_right
theorem gJ:type_of% @List.getElem?_cons_succ:=@List.getElem?_cons_succ
theorem ki:type_of% @List.getElem?_cons_zero:=@List.getElem?_cons_zero
theorem lh:type_of% @List.getElem?_drop:=@List.getElem?_drop
theorem dO:type_of% @List.getElem?_eq_getElem:=@List.getElem?_eq_getElem
theorem my:type_of% @List.getElem?_eq_some_iff:=@List.getElem?_eq_some_iff
theorem eI:type_of% @List.getElem?_map:=@List.getElem?_map
theorem lj:type_of% @List.getElem?_replicate:=@List.getElem?_replicate
theorem gx:type_of% @List.getElem?_set:=@List.getElem?_set
theorem gg:type_of% @List.getElem?_take:=@List.getElem?_take
theorem dV:type_of% @List.length_cons:=@List.length_cons
theorem iT:type_of% @List.length_drop:=@List.length_drop
theorem ll:type_of% @List.length_eq_zero_iff:=@List.length_eq_zero_iff
theorem iU:type_of% @List.length_filter_le:=@List.length_filter_le
theorem dY:type_of% @List.length_map:=@List.length_map
theorem dU:type_of% @List.length_nil:=@List.length_nil
theorem kj:type_of% @List.length_pos_iff:=@List.length_pos_iff
theorem gK:type_of% @List.length_replicate:=@List.length_replicate
theorem jC:type_of% @List.length_singleton:=@List.length_singleton
theorem dQ:type_of% @List.length_take:=@List.length_take
theorem eJ:type_of% @List.map_append:=@List.map_append
theorem kl:type_of% @List.map_congr_left:=@List.map_congr_left
theorem ec:type_of% @List.map_cons:=@List.map_cons
theorem iG:type_of% @List.map_map:=@List.map_map
theorem fx:type_of% @List.map_nil:=@List.map_nil
theorem iV:type_of% @List.map_set:=@List.map_set
theorem iW:type_of% @List.map_toArray:=@List.map_toArray
theorem dR:type_of% @List.mem_append:=@List.mem_append
theorem iX:type_of% @List.mem_append_left:=@List.mem_append_left
theorem jD:type_of% @List.mem_append_right:=@List.mem_append_right
theorem dN:type_of% @List.mem_cons:=@List.mem_cons
theorem iY:type_of% @List.mem_filter:=@List.mem_filter
theorem f_:type_of% @List.mem_flatMap:=@List.mem_flatMap
theorem fL:type_of% @List.mem_iff_getElem:=@List.mem_iff_getElem
theorem dH:type_of% @List.mem_map:=@List.mem_map
theorem gh:type_of% @List.mem_map_of_mem:=@List.mem_map_of_mem
theorem lp:type_of% @List.mem_of_mem_take:=@List.mem_of_mem_take
theorem jE:type_of% @List.mem_range:=@List.mem_range
theorem dZ:type_of% @List.mem_singleton:=@List.mem_singleton
theorem eY:type_of% @List.nil_append:=@List.nil_append
theorem lr:type_of% @List.nodup_append:=@List.nodup_append
theorem hY:type_of% @List.nodup_cons:=@List.nodup_cons
theorem jF:type_of% @List.nodup_nil:=@List.nodup_nil
theorem ga:type_of% @List.not_mem_nil:=@List.not_mem_nil
theorem jG:type_of% @List.pairwise_cons:=@List.pairwise_cons
theorem km:type_of% @List.pairwise_map:=@List.pairwise_map
theorem kn:type_of% @List.size_toArray:=@List.size_toArray
theorem el:type_of% @List.take_append_drop:=@List.take_append_drop
theorem ko:type_of% @List.take_succ_cons:=@List.take_succ_cons
theorem fE:type_of% @Nat.add_assoc:=@Nat.add_assoc
theorem fp:type_of% @Nat.add_mul:=@Nat.add_mul
theorem iH:type_of% @Nat.add_zero:=@Nat.add_zero
theorem dJ:type_of% @Nat.le_refl:=@Nat.le_refl
theorem dT:type_of% @Nat.le_trans:=@Nat.le_trans
theorem kr:type_of% @Nat.lt_of_lt_of_le:=@Nat.lt_of_lt_of_le
theorem fQ:type_of% @Nat.lt_or_ge:=@Nat.lt_or_ge
theorem ew:type_of% @Nat.lt_succ_self:=@Nat.lt_succ_self
theorem fz:type_of% @Nat.mul_le_mul_right:=@Nat.mul_le_mul_right
theorem fR:type_of% @Nat.mul_one:=@Nat.mul_one
theorem fS:type_of% @Nat.sub_self:=@Nat.sub_self
theorem iZ:type_of% @Nat.sub_zero:=@Nat.sub_zero
theorem jH:type_of% @Nat.succ_pos:=@Nat.succ_pos
theorem ee:type_of% @Nat.zero_add:=@Nat.zero_add
theorem fq:type_of% @Nat.zero_le:=@Nat.zero_le
theorem gL:type_of% @Nat.zero_mul:=@Nat.zero_mul
theorem fM:type_of% @Option.getD_none:=@Option.getD_none
theorem eh:type_of% @Option.getD_some:=@Option.getD_some
theorem iw:type_of% @Option.isSome_iff_exists:=@Option.isSome_iff_exists
theorem gy:type_of% @Option.isSome_none:=@Option.isSome_none
theorem fb:type_of% @Option.map_eq_some_iff:=@Option.map_eq_some_iff
theorem gM:type_of% @Option.map_none:=@Option.map_none
theorem eK:type_of% @Option.map_some:=@Option.map_some
theorem eE:type_of% @Option.some.inj:=@Option.some.inj
theorem dG:type_of% @Option.some.injEq:=@Option.some.injEq
theorem dq:type_of% @Go.Result.andThen_ok:=@Go.Result.andThen_ok
theorem dt:type_of% @Go.Sem.run_bind:=@Go.Sem.run_bind
theorem dv:type_of% @Go.Sem.run_pure:=@Go.Sem.run_pure
theorem i_:type_of% @UInt8.toNat_ofNat':=@UInt8.toNat_ofNat'
theorem dX:type_of% @congrArg:=@congrArg
theorem eX:type_of% @decide_eq_decide:=@decide_eq_decide
theorem dA:type_of% @decide_true:=@decide_true
theorem eQ:type_of% @eq_true:=@eq_true
theorem dI:type_of% @if_false:=@if_false
theorem a_:type_of% @if_neg:=@if_neg
theorem cV:type_of% @if_pos:=@if_pos
theorem dD:type_of% @if_true:=@if_true
theorem fX:type_of% @of_decide_eq_false:=@of_decide_eq_false
theorem fc:type_of% @of_decide_eq_true:=@of_decide_eq_true
theorem fe:type_of% @or_false:=@or_false
theorem dS:type_of% @Go.run_underlying:=@Go.run_underlying
theorem fY:type_of% @Go.setRow_heap:=@Go.setRow_heap
theorem gi:type_of% @Go.setRow_other:=@Go.setRow_other
theorem fu:type_of% @true_imp_iff:=@true_imp_iff
theorem fN:type_of% @Go.wpIn_mono:=@Go.wpIn_mono
namespace Go.Iv
open Go
inductive Cap where
 | none
 | nil
 | full
 | app (g:Nat)
 deriving DecidableEq
structure Tag where
 fresh:Bool
 cap:Cap
 es:Nat
inductive IV where
 | raw (v:Value)
 | agg (cs:List IV)
 | tup (vs:List IV)
 | fn (f:Fn) (first caps:List IV)
 | sl (t:Tag) (xs:List IV)
 | cptr (x:IV)
 | junk
instance :Coe Int IV:=⟨λn=>.raw (.int .i64 n)⟩
instance :Coe Nat IV:=⟨λn=>.raw (.int .i64 (n:Int))⟩
instance :Coe Bool IV:=⟨λn=>.raw (.bool n)⟩
instance :Coe ByteArray IV:=⟨λn=>.raw (.string n)⟩
instance :Coe Unit IV:=⟨λ_=>.sl ⟨true,.nil,0⟩ []⟩
def IV.cells:IV->List IV
 | .agg cs=>cs
 | x=>[x]
def IV.one:IV->Bool
 | .raw (.agg _)=>false
 | .raw (.tuple _)=>false
 | .raw _=>true
 | .fn ..=>true
 | .sl ..=>true
 | .cptr _=>true
 | _=>false
def kO:Cap->Option Addr->Nat->Nat->Prop
 | .none,_,_,_=>True
 | .nil,a,n,c=>a=Option.none/\n=0/\c=0
 | .full,_,n,c=>c=n
 | .app g,a,_,_=>a=some ⟨g,0,Option.none⟩
def mz:Value->Prop
 | .string s=>s.size<=281474976710656
 | _=>True
def shq (w:World)(b:Nat):Option ((TypeId×Nat)×Bool) :=
 match w.heap[b]? with
 | some (.cells c e f)=>some ((e,c.size),f == (0,0))
 | _=>none
def ety (w:World)(b:Nat):Option TypeId:=(shq w b).map (·.1.1)
inductive V (B:Nat)(L:Nat->Nat)(w:World):Value->IV->Prop
 | raw (v:Value) (h:mz v):V B L w v (.raw v)
 | junk (v:Value):V B L w v .junk
 | agg (rs:List Value) (cs:List IV) (hl:rs.length=cs.length) (h:∀(i:Nat) (r:Value) (c:IV),rs[i]?=some r->cs[i]?=some c->V B L w r c) :
   V B L w (.agg ⟨rs⟩) (.agg cs)
 | tup (rs:List Value) (cs:List IV) (hl:rs.length=cs.length) (h:∀(i:Nat) (r:Value) (c:IV),rs[i]?=some r->cs[i]?=some c->V B L w r c) :
   V B L w (.tuple ⟨rs⟩) (.tup cs)
 | fn (f:Fn) (rs:List Value) (cs:List IV) (hl:rs.length=cs.length) (h:∀(i:Nat) (r:Value) (c:IV),rs[i]?=some r->cs[i]?=some c->V B L w r c)
   (rs':List Value) (cs':List IV) (hl':rs'.length=cs'.length) (h':∀(i:Nat) (r:Value) (c:IV),rs'[i]?=some r->cs'[i]?=some c->V B L w r c) :
   V B L w (.func f ⟨rs⟩ ⟨rs'⟩) (.fn f cs cs')
 | sl (a:Option Addr) (cap:Nat) (t:Tag) (xs:List IV) (T:TypeId) (vs:List Value)
   (hcap:kO t.cap a xs.length cap) (hlen:xs.length<=140737488355328) (hcl:xs.length<=cap)
   (hs:∀x∈xs,x.cells.length=t.es) (hvl:vs.length=xs.length*t.es)
   (hroom:∀g,t.cap=.app g->∃T' k,shq w g=some ((T',k),true)/\cap*t.es<=k)
   (hfresh:t.fresh=true->∀ad:Addr,a=some ad->B<=ad.block/\ad.off%t.es=0/\ety w ad.block=some T)
   (hplace:xs≠[]->∃ad:Addr,a=some ad/\ad.spot=Option.none/\ad.off+vs.length<=L ad.block /\
    (∀(i:Nat) (r:Value),vs[i]?=some r->w.cell? ⟨ad.block,ad.off+i,Option.none⟩=some r))
   (h:∀(i:Nat) (r:Value) (c:IV),vs[i]?=some r->(xs.flatMap IV.cells)[i]?=some c->V B L w r c) :
   V B L w (.slice a xs.length cap) (.sl t xs)
 | cptr (ad:Addr) (x:IV) (vs:List Value) (hsp:ad.spot=Option.none) (hvl:vs.length=x.cells.length) (hL:ad.off+vs.length<=L ad.block)
   (hc:∀(i:Nat) (r:Value),vs[i]?=some r->w.cell? ⟨ad.block,ad.off+i,Option.none⟩=some r)
   (h:∀(i:Nat) (r:Value) (c:IV),vs[i]?=some r->x.cells[i]?=some c->V B L w r c) :
   V B L w (.pointer (some ad)) (.cptr x)
def V.mono {B:Nat}{L L':Nat->Nat}{w w':World}{r:Value}{x:IV}(h:V B L w r x)(hL:∀b,L b<=L' b)
  (hc:∀b i,i<L b->w'.cell? ⟨b,i,none⟩=w.cell? ⟨b,i,none⟩) (hT:∀b p,shq w b=some p->shq w' b=some p):V B L' w' r x:=by
 induction h with
 | raw v h=>exact .raw v h
 | junk v=>exact .junk v
 | agg rs cs hl _ D=>exact .agg rs cs hl D
 | tup rs cs hl _ D=>exact .tup rs cs hl D
 | fn f rs cs hl _ ag cs' ak _ D ah=>exact .fn f rs cs hl D ag cs' ak ah
 | sl a cap t xs T vs ae ac al hs J U G E _ D =>
  refine .sl a cap t xs T vs ae ac al hs J (λg hg=>?_) (λhf ad ha=>?_) (λaj=>?_) D
  ·obtain⟨T',k,h1,h2⟩:=U g hg;exact⟨T',k,hT _ _ h1,h2⟩
  ·obtain⟨h1,h2,h3⟩:=G hf ad ha;refine⟨h1,h2,?_⟩;unfold ety at h3 ⊢;cases hq:shq w ad.block with
   | none=>simp[hq] at h3
   | some p=>rw[hT _ _ hq];rw[hq] at h3;exact h3
  ·obtain⟨ad,ha,O,aa,A⟩:=E aj;refine⟨ad,ha,O,dT aa (hL _),λi r hr=>?_⟩;have hi:=(my.1 hr).1;rw[hc _ _ (by omega)];exact A i r hr
 | cptr ad x vs O J aa A _ D =>
  refine .cptr ad x vs O J (dT aa (hL _)) (λi r hr=>?_) D;have hi:=(my.1 hr).1;rw[hc _ _ (by omega)];exact A i r hr
def VL (B:Nat)(L:Nat->Nat)(w:World)(rs:List Value)(cs:List IV):Prop :=
 rs.length=cs.length/\∀(i:Nat) (r:Value) (c:IV),rs[i]?=some r->cs[i]?=some c->V B L w r c
def VL.mono {B:Nat}{L L':Nat->Nat}{w w':World}{r:List Value}{x:List IV}(h:VL B L w r x)(G:∀b,L b<=L' b)
  (hc:∀b i,i<L b->w'.cell? ⟨b,i,none⟩=w.cell? ⟨b,i,none⟩) (E:∀b p,shq w b=some p->shq w' b=some p):VL B L' w' r x :=
 ⟨h.1,λi r c D A=>(h.2 i r c D A).mono G hc E⟩
section
variable {B:Nat}{L:Nat->Nat}{w:World}
def VL.nil:VL B L w [] []:=⟨rfl,λi r c h=>by simp at h⟩
def VL.cons {r:Value}{c:IV}{rs:List Value}{cs:List IV}(h:V B L w r c)(hs:VL B L w rs cs):VL B L w (r::rs) (c::cs) :=
 ⟨by simp[hs.1],λi a b D A=>by
  cases i with
  | zero=>simp at D A;exact D▸A▸h
  | succ i=>exact hs.2 i a b (by simpa using D) (by simpa using A)⟩
def VL.get {rs:List Value}{cs:List IV}(h:VL B L w rs cs){i:Nat}{c:IV}(hc:cs[i]?=some c):∃r,rs[i]?=some r/\V B L w r c:=by
 have D:=(my.1 hc).1;have A:rs[i]?=some (rs[i]'(by rw[h.1];exact D)):=dO _;exact⟨_,A,h.2 i _ _ A hc⟩
def VL.append {r1 r2:List Value}{c1 c2:List IV}(h1:VL B L w r1 c1)(h2:VL B L w r2 c2):VL B L w (r1++r2) (c1++c2):=by
 refine⟨by simp[h1.1,h2.1],λi r c A hc=>?_⟩;by_cases D:i<r1.length
 ·rw[fw D] at A;rw[fw (by rw[<- h1.1];exact D)] at hc;exact h1.2 i r c A hc
 ·rw[fD (by omega)] at A;rw[fD (by rw[<- h1.1];omega),<- h1.1] at hc;exact h2.2 _ r c A hc
def VL.take {rs:List Value}{cs:List IV}(h:VL B L w rs cs)(n:Nat):VL B L w (rs.take n) (cs.take n):=by
 refine⟨by simp[h.1],λi r c A hc=>?_⟩;rw[gg] at A hc;split at A<;>rename_i D
 ·rw[cV D] at hc;exact h.2 i r c A hc
 ·cases A
def VL.drop {rs:List Value}{cs:List IV}(h:VL B L w rs cs)(n:Nat):VL B L w (rs.drop n) (cs.drop n):=by
 refine⟨by simp[h.1],λi r c A hc=>?_⟩;rw[lh] at A hc;exact h.2 _ r c A hc
def VL.set {rs:List Value}{cs:List IV}(h:VL B L w rs cs)(i:Nat){v:Value}{x:IV}(hv:V B L w v x):VL B L w (rs.set i v) (cs.set i x):=by
 refine⟨by simp[h.1],λj r c A hc=>?_⟩;rw[gx] at A hc;by_cases D:i=j
 ·rw[cV D] at A hc;split at A
  ·rw[cV (by rw[<- h.1];assumption)] at hc;cases A;cases hc;exact hv
  ·cases A
 ·rw[a_ D] at A hc;exact h.2 j r c A hc
def oh {r:Value}{cs:List IV}(h:V B L w r (.agg cs)):∃rs:List Value,r=.agg ⟨rs⟩/\VL B L w rs cs:=by
 cases h with
 | agg rs cs hl h=>exact⟨rs,rfl,hl,h⟩
def oi {r:Value}{cs:List IV}(h:V B L w r (.tup cs)):∃rs:List Value,r=.tuple ⟨rs⟩/\VL B L w rs cs:=by
 cases h with
 | tup rs cs hl h=>exact⟨rs,rfl,hl,h⟩
def ja {r:Value}{f:Fn}{cs cs':List IV}(h:V B L w r (.fn f cs cs')):∃rs A:List Value,r=.func f ⟨rs⟩ ⟨A⟩/\VL B L w rs cs/\VL B L w A cs':=by
 cases h with
 | fn f rs cs hl h A cs' D E=>exact⟨rs,A,rfl,⟨hl,h⟩,D,E⟩
def dK {r v:Value}(h:V B L w r (.raw v)):r=v:=by
 cases h;rfl
def qC {r v:Value}(h:V B L w r (.raw v)):mz v:=by
 cases h;assumption
def VL.agg {rs:List Value}{cs:List IV}(h:VL B L w rs cs):V B L w (.agg ⟨rs⟩) (.agg cs):=.agg rs cs h.1 h.2
def VL.tup {rs:List Value}{cs:List IV}(h:VL B L w rs cs):V B L w (.tuple ⟨rs⟩) (.tup cs):=.tup rs cs h.1 h.2
def V.cells {r:Value}{x:IV}(h:V B L w r x)(U:∀v,x≠.raw (.agg v))(hj:x≠.junk):VL B L w r.cells.toList x.cells:=by
 cases h with
 | raw _ h =>
  have:r.cells=#[r]:=by cases r<;>first|rfl|exact absurd rfl (U _)
  rw[this];exact VL.cons (.raw r h) VL.nil
 | junk _=>exact absurd rfl hj
 | agg rs cs hl h=>exact⟨hl,h⟩
 | tup rs cs hl h=>exact VL.cons (.tup rs cs hl h) VL.nil
 | fn f rs cs hl h A cs' D h'=>exact VL.cons (.fn f rs cs hl h A cs' D h') VL.nil
 | sl a cap t O T vs h1 h2 J G E h6 h7 h8 h9=>exact VL.cons (.sl a cap t O T vs h1 h2 J G E h6 h7 h8 h9) VL.nil
 | cptr ad x vs h1 h2 J G E=>exact VL.cons (.cptr ad x vs h1 h2 J G E) VL.nil
def Value.flat:Value->Bool
 | .agg _=>false
 | .tuple _=>false
 | _=>true
def V.flat {r:Value}{x:IV}(h:V B L w r x)(A:x.one=true):Value.flat r=true:=by
 cases h with
 | raw _ _=>cases r<;>first|rfl|simp[IV.one] at A
 | junk _=>simp[IV.one] at A
 | agg=>simp[IV.one] at A
 | tup=>simp[IV.one] at A
 | fn=>rfl
 | sl=>rfl
 | cptr=>rfl
def lv {x:IV}(A:x.one=true):x.cells=[x]:=by
 cases x<;>first|rfl|simp[IV.one] at A
end
inductive KeyK where
 | str
 | int (k:IntKind)
 /-- a struct of a string and an int -/
 | sym
 /-- a struct of a bool and a u8 -/
 | sg
 /-- a struct of an int and a bool -/
 | pl
def plK:List Value->Bool
 | [.int .i64 n,.bool _]=>decide (-9223372036854775808<=n)&&decide (n<=9223372036854775807)
 | _=>false
def sgK:List Value->Bool
 | [.bool _,.int .u8 n]=>decide (0<=n)&&decide (n<=255)
 | _=>false
def symK:List Value->Bool
 | [.string s,.int .i64 n]=>decide (s.size<=281474976710656)&&decide (-9223372036854775808<=n)&&decide (n<=9223372036854775807)
 | _=>false
def fF:KeyK->Value->Bool
 | .str,.string _=>true
 | .int k,.int A _=>k == A
 | .sym,.agg cs=>symK cs.toList
 | .sg,.agg cs=>sgK cs.toList
 | .pl,.agg cs=>plK cs.toList
 | _,_=>false
inductive IObj where
 | box (cs:List IV)
 | front (n s:Nat)
 | map (k:KeyK) (es:List (Value×IV))
 /-- the record of a range over a function; what its frame reads aL -/
 | loop (r:Loop) (xs:Nat->IV)
 /-- a map that is ranged over: its entries to the letter -/
 | mapx (ents:Array MapEntry) (clock:Nat)
 /-- a range over map m -/
 | iter (m since:Nat) (seen:Array Nat) (c:Nat)
abbrev ISt:=Nat->Option IObj
structure Cx where
 P:Program
 gl:Nat->Option IV
 B:Nat
structure WS where
 w:World
 L:Nat->Nat
 st:ISt
 d:Nat
abbrev Cx.v (C:Cx)(X:WS):Value->IV->Prop:=V C.B X.L X.w
abbrev Cx.vl (C:Cx)(X:WS):List Value->List IV->Prop:=VL C.B X.L X.w
def ObjOk (C:Cx)(X:WS)(b:Nat):IObj->Prop
 | .box cs=>X.L b=0/\∃(c:Array Value) (T:TypeId),X.w.heap[b]?=some (.cells c T (0,0))/\C.vl X c.toList cs
 | .front n s=>∃(c:Array Value) (T:TypeId),X.w.heap[b]?=some (.cells c T (0,0))/\X.L b=n*s/\X.L b<=c.size
 | .map kk es=>X.L b=0/\(∀p∈es,fF kk p.1=true)/\(es.map (·.1)).Nodup/\∃(A:Array MapEntry) (D:Nat),X.w.heap[b]?=some (.map A D)/\A.toList.map (·.key)=es.map (·.1) /\
   C.vl X (A.toList.map (·.val)) (es.map (·.2))/\(∀e∈A.toList,e.born<D)/\A.toList.Pairwise (λe J=>e.born<J.born)
 | .loop r G=>X.L b=0/\X.w.heap[b]?=some (.loop r)/\∀t,C.v X (r.tmps.getD t undef) (G t)
 | .mapx A D=>X.L b=0/\X.w.heap[b]?=some (.map A D)
 | .iter m E seen c=>X.L b=0/\X.w.heap[b]?=some (.mapIter (some m) E seen c)
structure Good (C:Cx)(X:WS):Prop where
 ok:∀b o,X.st b=some o->ObjOk C X b o
 gl:∀g x,C.gl g=some x->C.v X (.pointer (some ⟨g,0,none⟩)) (.cptr x)
 B:C.B<=X.w.heap.size
 Lnew:∀b,X.w.heap.size<=b->X.L b=0
 gsh:∀g x,C.gl g=some x->∃T z,shq X.w g=some ((T,x.cells.length),z)
 /-- of contracts that lean on no global of the library's (these rest on contracts that do not tell what is drawn) -/
 dr:(∀g,C.gl g=none)->X.d<=X.w.drawn
structure Ext (X X':WS):Prop where
 os:X'.w.os=X.w.os
 tape:X'.w.tape=X.w.tape
 output:X'.w.output=X.w.output
 size:X.w.heap.size<=X'.w.heap.size
 lmono:∀b,X.L b<=X'.L b
 cells:∀b i,i<X.L b->X'.w.cell? ⟨b,i,none⟩=X.w.cell? ⟨b,i,none⟩
 keep:∀b,b<X.w.heap.size->X.st b=none->X'.w.heap[b]?=X.w.heap[b]?/\X'.L b=X.L b
 dom:∀b,b<X.w.heap.size->X.st b=none->X'.st b=none
 shape:∀b p,shq X.w b=some p->shq X'.w b=some p
 d:X'.d=X.d
def Ext.refl (X:WS):Ext X X:=⟨rfl,rfl,rfl,dJ _,λ_=>dJ _,λ_ _ _=>rfl,λ_ _ _=>⟨rfl,rfl⟩,λ_ _ h=>h,λ_ _ h=>h,rfl⟩
def Ext.trans {X Y Z:WS}(h:Ext X Y)(k:Ext Y Z):Ext X Z where
 os:=k.os.trans h.os
 tape:=k.tape.trans h.tape
 output:=k.output.trans h.output
 size:=dT h.size k.size
 lmono b:=dT (h.lmono b) (k.lmono b)
 cells b i D:=(k.cells b i (kr D (h.lmono b))).trans (h.cells b i D)
 keep b A hs:=by
  obtain⟨h1,h2⟩:=h.keep b A hs;obtain⟨G,E⟩:=k.keep b (kr A h.size) (h.dom b A hs);exact⟨G.trans h1,E.trans h2⟩
 dom b A hs:=k.dom b (kr A h.size) (h.dom b A hs)
 shape b p hp:=k.shape b p (h.shape b p hp)
 d:=k.d.trans h.d
def Ext.v {C:Cx}{X Y:WS}(h:Ext X Y){r:Value}{x:IV}(hv:C.v X r x):C.v Y r x:=V.mono hv h.lmono h.cells h.shape
def Ext.vl {C:Cx}{X Y:WS}(h:Ext X Y){r:List Value}{x:List IV}(hv:C.vl X r x):C.vl Y r x:=VL.mono hv h.lmono h.cells h.shape
def Good.lt {C:Cx}{X:WS}(h:Good C X){b:Nat}{o:IObj}(E:X.st b=some o):b<X.w.heap.size:=by
 have key:∀o',X.w.heap[b]?=some o'->b<X.w.heap.size:=λo' D=>(iF.1 D).1;have:=h.ok b o E;cases o with
 | box cs=>obtain⟨_,c,T,A,_⟩:=this;exact key _ A
 | front n s=>obtain⟨c,T,A,_⟩:=this;exact key _ A
 | map k es=>obtain⟨_,_,_,e,cl,A,_⟩:=this;exact key _ A
 | loop r G=>exact key _ this.2.1
 | mapx e c=>exact key _ this.2
 | iter m s e c=>exact key _ this.2
def ObjOk.mono {C:Cx}{X Y:WS}{b:Nat}{o:IObj}(h:ObjOk C X b o)(E:Y.w.heap[b]?=X.w.heap[b]?)(D:Y.L b=X.L b)
  (A:∀r x,C.vl X r x->C.vl Y r x):ObjOk C Y b o:=by
 cases o with
 | box cs =>
  obtain⟨h0,c,T,G,hv⟩:=h;exact⟨D.trans h0,c,T,E.trans G,A _ _ hv⟩
 | front n s =>
  obtain⟨c,T,G,h2,J⟩:=h;exact⟨c,T,E.trans G,D.trans h2,by rw[D];exact J⟩
 | map k es =>
  obtain⟨h0,U,hnd,e,cl,G,h1,h2,J,h4⟩:=h;exact⟨D.trans h0,U,hnd,e,cl,E.trans G,h1,A _ _ h2,J,h4⟩
 | mapx e c=>exact⟨D.trans h.1,E.trans h.2⟩
 | iter m s e c=>exact⟨D.trans h.1,E.trans h.2⟩
 | loop r O=>exact⟨D.trans h.1,E.trans h.2.1,λt=>by
   have:=A [r.tmps.getD t undef] [O t] (VL.cons (h.2.2 t) VL.nil);exact this.2 0 _ _ rfl rfl⟩
inductive SV where
 | iv (x:IV)
 | box (cs:List IV)
instance :Coe IV SV:=⟨.iv⟩
abbrev Fr:=Nat->SV
def Fr.put (fr:Fr)(t:Nat)(v:SV):Fr:=λs=>if s=t then v else fr s
def Fr.put_apply (fr:Fr)(t:Nat)(v:SV)(s:Nat):fr.put t v s=if s=t then v else fr s:=(rfl)
inductive Dfd where
 | call (f:Fn) (caps args:List IV)
 | coll (r:Nat)
abbrev tm (ts:Array Value)(t:Nat):Value:=ts.getD t undef
def SlotOk (C:Cx)(X:WS)(n0:Nat)(r:Value):SV->Prop
 | .iv x=>C.v X r x
 | .box cs=>∃(b:Nat) (c:Array Value) (T:TypeId),r=.pointer (some ⟨b,0,none⟩)/\X.w.heap[b]?=some (.cells c T (0,0))/\C.vl X c.toList cs /\
   X.st b=none/\X.L b=0/\n0<=b
structure FrOk (C:Cx)(X:WS)(n0:Nat)(fr:Fr)(ts:Array Value):Prop where
 slot:∀t,SlotOk C X n0 (tm ts t) (fr t)
 inj:∀t t' cs cs',fr t=.box cs->fr t'=.box cs'->tm ts t=tm ts t'->t=t'
def DfdOk (C:Cx)(X:WS)(n0:Nat)(d:Deferred):Dfd->Prop
 | .call f D args=>∃rs A:List Value,d={ target:=.fn f ⟨rs⟩,args:=⟨A⟩ }/\C.vl X rs D/\C.vl X A args
 | .coll r=>d={ target:=.collected r,args:=#[] }/\X.w.heap[r]?=some (.deferred (some []))/\X.st r=none/\n0<=r
inductive DsOk (C:Cx)(X:WS)(n0:Nat):List Deferred->List Dfd->Prop
 | nil:DsOk C X n0 [] []
 | cons {d:Deferred} {e:Dfd} {ds:List Deferred} {es:List Dfd} (h:DfdOk C X n0 d e) (hs:DsOk C X n0 ds es) (hn:∀r,e=.coll r->Dfd.coll r ∉ es):DsOk C X n0 (d::ds) (e::es)
structure Inv (C:Cx)(X0:WS)(N:Nat)(X:WS)(fr:Fr)(ds:List Dfd)(a:Act):Prop where
 good:Good C X
 ext:Ext X0 X
 fr:FrOk C X X0.w.heap.size fr a.tmps
 size:a.tmps.size=N
 ds:DsOk C X X0.w.heap.size a.defers ds
abbrev Ad:=Nat->Option (Nat×Nat)
def Ad.none_:Ad:=λ_=>none
def Ad.keep (d:Nat):Option (Nat×Nat)->Option (Nat×Nat)
 | some (t,off)=>if t=d then none else some (t,off)
 | none=>none
def Ad.put (ad:Ad)(d:Nat)(v:Option (Nat×Nat)):Ad:=λs=>if s=d then v else Ad.keep d (ad s)
def Ad.put_apply (ad:Ad)(d:Nat)(v:Option (Nat×Nat))(s:Nat):ad.put d v s=if s=d then v else Ad.keep d (ad s):=(rfl)
def AdOk (fr:Fr)(ts:Array Value)(ad:Ad):Prop :=
 ∀x t off,ad x=some (t,off)->∃cs b,fr t=.box cs/\tm ts t=.pointer (some ⟨b,0,none⟩)/\tm ts x=.pointer (some ⟨b,off,none⟩)
def AdOk.nil {fr:Fr}{ts:Array Value}:AdOk fr ts Ad.none_:=λ_ _ _ h=>by cases h
section
variable {C:Cx}{X Y:WS}{n0:Nat}
def SlotOk.mono {r:Value}{s:SV}(h:SlotOk C X n0 r s)(hv:∀r x,C.v X r x->C.v Y r x)
  (hb:∀b cs,s=.box cs->r=.pointer (some ⟨b,0,none⟩)->X.st b=none->X.L b=0->b<X.w.heap.size->Y.w.heap[b]?=X.w.heap[b]?/\Y.L b=X.L b/\Y.st b=none) :
  SlotOk C Y n0 r s:=by
 cases s with
 | iv x=>exact hv _ _ h
 | box cs =>
  obtain⟨b,c,T,D,E,A,h1,h2,h3⟩:=h;obtain⟨O,J,G⟩:=hb b cs rfl D h1 h2 (iF.1 E).1;exact⟨b,c,T,D,O.trans E,⟨A.1,λi r x D U=>hv _ _ (A.2 i r x D U)⟩,G,J.trans h2,h3⟩
def DfdOk.mono {d:Deferred}{e:Dfd}(h:DfdOk C X n0 d e)(hv:∀r x,C.v X r x->C.v Y r x)
  (hb:∀r,X.w.heap[r]?=some (.deferred (some []))->X.st r=none->n0<=r->Y.w.heap[r]?=some (.deferred (some []))/\Y.st r=none):DfdOk C Y n0 d e:=by
 cases e with
 | call f J args =>
  obtain⟨rs,A,hd,h1,h2⟩:=h;exact⟨rs,A,hd,⟨h1.1,λi r x E D=>hv _ _ (h1.2 i r x E D)⟩,⟨h2.1,λi r x E D=>hv _ _ (h2.2 i r x E D)⟩⟩
 | coll r =>
  obtain⟨hd,h1,h2,G⟩:=h;obtain⟨U,O⟩:=hb r h1 h2 G;exact⟨hd,U,O,G⟩
def DsOk.mono {ds:List Deferred}{es:List Dfd}(h:DsOk C X n0 ds es)(hv:∀r x,C.v X r x->C.v Y r x)
  (E:∀r,X.w.heap[r]?=some (.deferred (some []))->X.st r=none->n0<=r->Y.w.heap[r]?=some (.deferred (some []))/\Y.st r=none):DsOk C Y n0 ds es:=by
 induction h with
 | nil=>exact .nil
 | cons h _ D A=>exact .cons (h.mono hv E) A D
def DsOk.lt {C:Cx}{X:WS}{n0:Nat}{ds:List Deferred}{es:List Dfd}(h:DsOk C X n0 ds es){r:Nat}(A:Dfd.coll r∈es):r<X.w.heap.size:=by
 induction h with
 | nil=>cases A
 | cons h _ E D =>
  rcases dN.1 A with rfl|A
  ·exact (iF.1 h.2.1).1
  ·exact D A
def FrOk.ext {fr:Fr}{ts:Array Value}(h:FrOk C X n0 fr ts)(A:Ext X Y):FrOk C Y n0 fr ts :=
 ⟨λt=>(h.slot t).mono (λ_ _=>A.v) (λb _ _ _ h1 _ D=>⟨(A.keep b D h1).1,(A.keep b D h1).2,A.dom b D h1⟩),h.inj⟩
def DsOk.ext {ds:List Deferred}{es:List Dfd}(h:DsOk C X n0 ds es)(A:Ext X Y):DsOk C Y n0 ds es :=
 h.mono (λ_ _=>A.v) λr h1 h2 _ =>
  have D:r<X.w.heap.size:=(iF.1 h1).1
  ⟨(A.keep r D h2).1.trans h1,A.dom r D h2⟩
def Inv.ext' {X0:WS}{N:Nat}{fr:Fr}{ds:List Dfd}{a:Act}(h:Inv C X0 N X fr ds a)(A:Ext X Y)(D:Good C Y):Inv C X0 N Y fr ds a :=
 ⟨D,h.ext.trans A,h.fr.ext A,h.size,h.ds.ext A⟩
def kP (ts:Array Value)(d:Nat)(v:Value)(t:Nat):tm (ts.setIfInBounds d v) t=if d=t/\d<ts.size then v else tm ts t:=by
 unfold tm;simp only[la,Array.getElem?_setIfInBounds];by_cases h:d=t
 ·subst h;by_cases hd:d<ts.size
  ·simp[hd]
  ·simp[hd]
 ·simp[h]
def FrOk.put {fr:Fr}{ts:Array Value}(h:FrOk C X n0 fr ts){d:Nat}(hd:d<ts.size){v:Value}{x:IV}(hv:C.v X v x) :
  FrOk C X n0 (fr.put d (.iv x)) (ts.setIfInBounds d v):=by
 refine⟨λt=>?_,λt G cs cs' ht A J=>?_⟩
 ·rw[kP,Fr.put_apply];by_cases D:t=d
  ·subst D;rw[cV rfl,cV ⟨rfl,hd⟩];exact hv
  ·rw[a_ D,a_ (λE=>D E.1.symm)];exact h.slot t
 ·rw[Fr.put_apply] at ht A;by_cases h1:t=d
  ·rw[cV h1] at ht;cases ht
  ·by_cases h2:G=d
   ·rw[cV h2] at A;cases A
   ·rw[a_ h1] at ht;rw[a_ h2] at A;rw[kP,kP,a_ (λE=>h1 E.1.symm),a_ (λE=>h2 E.1.symm)] at J;exact h.inj t G cs cs' ht A J
def oj {d:Nat}{o:Option (Nat×Nat)}{t off:Nat}(h:Ad.keep d o=some (t,off)):o=some (t,off)/\t≠d:=by
 cases o with
 | none=>cases h
 | some p =>
  obtain⟨E,D⟩:=p;simp only[Ad.keep] at h;split at h
  ·cases h
  ·rename_i A;cases h;exact⟨rfl,A⟩
def AdOk.put {fr:Fr}{ts:Array Value}{ad:Ad}(h:AdOk fr ts ad)(d:Nat)(v:Value)(s:SV):AdOk (fr.put d s) (ts.setIfInBounds d v) (ad.put d none):=by
 intro x t off A;rw[Ad.put_apply] at A;split at A
 ·cases A
 ·rename_i E;obtain⟨A,ht⟩:=oj A;obtain⟨cs,b,h1,h2,G⟩:=h x t off A;refine⟨cs,b,?_,?_,?_⟩
  ·rw[Fr.put_apply,a_ ht];exact h1
  ·rw[kP,a_ (λD=>ht D.1.symm)];exact h2
  ·rw[kP,a_ (λD=>E D.1.symm)];exact G
def AdOk.adr {fr:Fr}{ts:Array Value}{ad:Ad}(h:AdOk fr ts ad){d t off b:Nat}{cs:List IV}(hd:d<ts.size)(J:d≠t)(ht:fr t=.box cs)(hb:tm ts t=.pointer (some ⟨b,0,none⟩))(s:SV) :
  AdOk (fr.put d s) (ts.setIfInBounds d (.pointer (some ⟨b,off,none⟩))) (ad.put d (some (t,off))):=by
 intro x U E D;rw[Ad.put_apply] at D;split at D
 ·rename_i O;cases D;refine⟨cs,b,?_,?_,?_⟩
  ·rw[Fr.put_apply,a_ (λA=>J A.symm)];exact ht
  ·rw[kP,a_ (λA=>J A.1)];exact hb
  ·rw[kP,cV ⟨O.symm,hd⟩]
 ·rename_i O;obtain⟨D,G⟩:=oj D;obtain⟨cs',b',h1,h2,h3⟩:=h x U E D;refine⟨cs',b',?_,?_,?_⟩
  ·rw[Fr.put_apply,a_ G];exact h1
  ·rw[kP,a_ (λA=>G A.1.symm)];exact h2
  ·rw[kP,a_ (λA=>O A.1.symm)];exact h3
end
def WS.new (X:WS)(o:Obj)(n:Nat)(so:Option IObj):WS :=
 { w:=X.w.alloc o,L:=λb=>if b=X.w.heap.size then n else X.L b,st:=λb=>if b=X.w.heap.size then so else X.st b,d:=X.d }
section
variable {C:Cx}{X:WS}
def qD (w:World)(o:Obj){k:Nat}(h:k<w.heap.size):(w.alloc o).heap[k]?=w.heap[k]?:=by
 show (w.heap.push o)[k]?=_;rw[Array.getElem?_push,a_ (by omega)]
def iL (w:World)(o:Obj):(w.alloc o).heap[w.heap.size]?=some o:=by
 show (w.heap.push o)[w.heap.size]?=_;simp
def oo {w w':World}{b:Nat}(h:w'.heap[b]?=w.heap[b]?)(i:Nat):w'.cell? ⟨b,i,none⟩=w.cell? ⟨b,i,none⟩:=by
 simp only[World.cell?,h]
def np {w w':World}{b:Nat}(h:w'.heap[b]?=w.heap[b]?):shq w' b=shq w b:=by
 simp only[shq,h]
def qE {w:World}{b:Nat}{p:(TypeId×Nat)×Bool}(h:shq w b=some p):b<w.heap.size:=by
 simp only[shq] at h;cases A:w.heap[b]? with
 | none=>simp[A] at h
 | some o=>exact (iF.1 A).1
def Good.new_ext (h:Good C X)(o:Obj)(n:Nat)(so:Option IObj):Ext X (X.new o n so) where
 os:=rfl
 tape:=rfl
 output:=rfl
 size:=by simp[WS.new]
 lmono b:=by
  simp only[WS.new];split
  ·rename_i A;rw[h.Lnew b (by omega)];exact fq _
  ·exact dJ _
 cells b i G:=by
  have A:b<X.w.heap.size:=by
   rcases fQ b X.w.heap.size with D|E
   ·exact D
   ·rw[h.Lnew b E] at G;omega
  exact oo (qD _ _ A) i
 keep b A _:=⟨qD _ _ A,by simp only[WS.new];rw[a_ (by omega)]⟩
 dom b A hs:=by simp only[WS.new];rw[a_ (by omega)];exact hs
 shape b p hp:=(np (qD _ _ (qE hp))).trans hp
 d:=rfl
def Good.new (h:Good C X)(o:Obj)(n:Nat)(so:Option IObj)(G:∀i,so=some i->ObjOk C (X.new o n so) X.w.heap.size i):Good C (X.new o n so) where
 ok b i E:=by
  by_cases A:b=X.w.heap.size
  ·subst A;simp only[WS.new,dD] at E;exact G i E
  ·have D:X.st b=some i:=by simpa only[WS.new,a_ A] using E
   have J:=h.lt D;exact (h.ok b i D).mono (qD _ _ J) (by simp only[WS.new];rw[a_ A]) (λ_ _ hv=>(h.new_ext o n so).vl hv)
 gl g x O:=(h.new_ext o n so).v (h.gl g x O)
 gsh g x O:=by obtain⟨T,z,U⟩:=h.gsh g x O;exact⟨T,z,(h.new_ext o n so).shape _ _ U⟩
 B:=by simp only[WS.new,World.size_alloc];exact Nat.le_succ_of_le h.B
 Lnew b E:=by
  simp only[WS.new,World.size_alloc] at E ⊢;rw[a_ (by omega)];exact h.Lnew b (by omega)
 dr:=h.dr
def Inv.new {X0:WS}{N:Nat}{fr:Fr}{ds:List Dfd}{a:Act}(h:Inv C X0 N X fr ds a)(o:Obj)(n:Nat)(so:Option IObj)
  (A:∀i,so=some i->ObjOk C (X.new o n so) X.w.heap.size i):Inv C X0 N (X.new o n so) fr ds a :=
 h.ext' (h.good.new_ext o n so) (h.good.new o n so A)
def WS.drew (X:WS):WS:={ X with w:=X.w.drew }
def Good.drew (h:Good C X):Ext X X.drew/\Good C X.drew:=by
 have A:Ext X X.drew:=⟨rfl,rfl,rfl,dJ _,λ_=>dJ _,λ_ _ _=>rfl,λ_ _ _=>⟨rfl,rfl⟩,λ_ _ h=>h,λ_ _ h=>h,rfl⟩
 refine⟨A,⟨λb o E=>(h.ok b o E).mono rfl rfl (λ_ _ hv=>A.vl hv),λg x D=>A.v (h.gl g x D),h.B,h.Lnew,h.gsh,λhd=>Nat.le_succ_of_le (h.dr hd)⟩⟩
def WS.row (X:WS)(g:Nat)(cs':Array Value)(n:Nat)(so:Option IObj):WS :=
 { w:=X.w.setRow g cs',L:=λb=>if b=g then n else X.L b,st:=λb=>if b=g then so else X.st b,d:=X.d }
def qF {w:World}{g:Nat}{c cs':Array Value}{T:TypeId}(D:w.heap[g]?=some (.cells c T (0,0)))(A:cs'.size=c.size)(b:Nat):shq (w.setRow g cs') b=shq w b:=by
 by_cases E:b=g
 ·subst E;simp only[shq,fY w b c cs' T (0,0) D,D,A]
 ·exact np (gi w g b cs' E)
def kv {g:Nat}{c cs':Array Value}{T:TypeId}{n:Nat}{so:Option IObj}(G:X.w.heap[g]?=some (.cells c T (0,0)))(E:cs'.size=c.size)(J:X.L g<=n)
  (A:∀i,i<X.L g->cs'[i]?=c[i]?) {r:Value} {x:IV} (hv:C.v X r x):C.v (X.row g cs' n so) r x:=by
 refine V.mono hv (λb=>?_) (λb i O=>?_) (λb p hp=>?_)
 ·simp only[WS.row];split
  ·rename_i D;subst D;exact J
  ·exact dJ _
 ·by_cases D:b=g
  ·subst D;have h1:=fY X.w b c cs' T (0,0) G;simp only[WS.row,World.cell?,h1,G,gy,Bool.false_eq_true,dI];exact A i O
  ·exact oo (gi X.w g b cs' D) i
 ·exact (qF G E b).trans hp
def Ext.row {X0:WS}{g:Nat}{c cs':Array Value}{T:TypeId}{n:Nat}{so:Option IObj}(A:Ext X0 X)(U:X.w.heap[g]?=some (.cells c T (0,0)))(O:cs'.size=c.size)(hn:X.L g<=n)
  (J:∀i,i<X.L g->cs'[i]?=c[i]?) (E:X0.w.heap.size<=g\/X0.st g≠none):Ext X0 (X.row g cs' n so) where
 os:=A.os
 tape:=A.tape
 output:=A.output
 size:=by simp only[WS.row,setRow_size];exact A.size
 lmono b:=by
  simp only[WS.row];split
  ·rename_i G;subst G;exact dT (A.lmono _) hn
  ·exact A.lmono b
 cells b i hi:=by
  rw[<- A.cells b i hi];by_cases G:b=g
  ·subst G;have h1:=fY X.w b c cs' T (0,0) U;simp only[WS.row,World.cell?,h1,U,gy,Bool.false_eq_true,dI];exact J i (kr hi (A.lmono b))
  ·exact oo (gi X.w g b cs' G) i
 keep b G hs:=by
  have D:b≠g:=by
   rintro rfl;rcases E with h|h
   ·omega
   ·exact h hs
  simp only[WS.row];rw[a_ D,gi _ _ _ _ D];exact A.keep b G hs
 dom b G hs:=by
  have D:b≠g:=by
   rintro rfl;rcases E with h|h
   ·omega
   ·exact h hs
  simp only[WS.row];rw[a_ D];exact A.dom b G hs
 shape b p hp:=(qF U O b).trans (A.shape b p hp)
 d:=A.d
def Good.row {g:Nat}{c cs':Array Value}{T:TypeId}{n:Nat}{so:Option IObj}(h:Good C X)(J:X.w.heap[g]?=some (.cells c T (0,0)))(E:cs'.size=c.size)(hn:X.L g<=n)
  (A:∀i,i<X.L g->cs'[i]?=c[i]?) (aa:∀i,so=some i->ObjOk C (X.row g cs' n so) g i):Good C (X.row g cs' n so) where
 ok b i G:=by
  by_cases D:b=g
  ·subst D;simp only[WS.row,dD] at G;exact aa i G
  ·have ab:X.st b=some i:=by simpa only[WS.row,a_ D] using G
   exact (h.ok b i ab).mono (gi X.w g b cs' D) (by simp only[WS.row];rw[a_ D])
    (λ_ _ hv=>⟨hv.1,λi r x hr hx=>kv J E hn A (hv.2 i r x hr hx)⟩)
 gl U x O:=kv J E hn A (h.gl U x O)
 gsh U x O:=by obtain⟨T',z,hT⟩:=h.gsh U x O;exact⟨T',z,(qF J E U).trans hT⟩
 B:=by simp only[WS.row,setRow_size];exact h.B
 Lnew b G:=by
  simp only[WS.row,setRow_size] at G ⊢;have O:=(iF.1 J).1;rw[a_ (by omega)];exact h.Lnew b G
 dr hd:=by simp only[WS.row,setRow_drawn];exact h.dr hd
def Inv.row {X0:WS}{N:Nat}{fr:Fr}{ds:List Dfd}{a:Act}{g:Nat}{c cs':Array Value}{T:TypeId}{n:Nat}{so:Option IObj}(h:Inv C X0 N X fr ds a)
  (O:X.w.heap[g]?=some (.cells c T (0,0))) (E:cs'.size=c.size) (J:X.L g<=n) (A:∀i,i<X.L g->cs'[i]?=c[i]?) (hst:X.st g≠none)
  (U:∀i,so=some i->ObjOk C (X.row g cs' n so) g i):Inv C X0 N (X.row g cs' n so) fr ds a:=by
 have G:X0.w.heap.size<=g\/X0.st g≠none:=by
  rcases fQ g X0.w.heap.size with aa|ab
  ·exact .inr λh0=>hst (h.ext.dom g aa h0)
  ·exact .inl ab
 refine⟨h.good.row O E J A U,h.ext.row O E J A G,⟨λt=>(h.fr.slot t).mono (λ_ _=>kv O E J A) ?_,h.fr.inj⟩,h.size,h.ds.mono (λ_ _=>kv O E J A) ?_⟩
 ·intro b cs _ _ hb _ _;have D:b≠g:=by rintro rfl;exact hst hb
  exact⟨gi X.w g b cs' D,by simp only[WS.row];rw[a_ D],by simp only[WS.row];rw[a_ D];exact hb⟩
 ·intro r h1 h2 _;have D:r≠g:=by rintro rfl;exact hst h2
  exact⟨(gi X.w g r cs' D).trans h1,by simp only[WS.row];rw[a_ D];exact h2⟩
def Inv.own {X0:WS}{N:Nat}{fr:Fr}{ds:List Dfd}{a:Act}{t g:Nat}{cs new:List IV}{c cs':Array Value}{T:TypeId}(h:Inv C X0 N X fr ds a)
  (ht:fr t=.box cs) (hr:tm a.tmps t=.pointer (some ⟨g,0,none⟩)) (U:X.w.heap[g]?=some (.cells c T (0,0))) (J:cs'.size=c.size)
  (O:C.vl X cs'.toList new):Inv C X0 N { X with w:=X.w.setRow g cs' } (fr.put t (.box new)) ds a:=by
 have hs:=h.fr.slot t;rw[ht] at hs;obtain⟨b,c1,T1,E,aq,ao,hst,hL,ae⟩:=hs;rw[hr] at E;obtain rfl:g=b:=by injection E with E;injection E with E;injection E
 have aa:X.row g cs' 0 none={ X with w:=X.w.setRow g cs' }:=by
  unfold WS.row;congr 1
  ·funext b;split
   ·rename_i hb;rw[hb,hL]
   ·rfl
  ·funext b;split
   ·rename_i hb;rw[hb,hst]
   ·rfl
 have A:∀i,i<X.L g->cs'[i]?=c[i]?:=λi hi=>by rw[hL] at hi;omega
 have hn:X.L g<=0:=by omega
 rw[<- aa];refine⟨h.good.row U J hn A (λi hi=>by cases hi),h.ext.row U J hn A (.inl ae),⟨λs=>?_,λs s' av ag h1 h2 he=>?_⟩,h.size,h.ds.mono (λ_ _=>kv U J hn A) ?_⟩
 ·rw[Fr.put_apply];by_cases D:s=t
  ·subst D;rw[cV rfl];refine⟨g,cs',T,hr,fY X.w g c cs' T (0,0) U,⟨O.1,λi r x hr hx=>kv U J hn A (O.2 i r x hr hx)⟩,?_,?_,ae⟩
   ·simp[WS.row]
   ·simp[WS.row]
  ·rw[a_ D];refine (h.fr.slot s).mono (λ_ _=>kv U J hn A) ?_;intro b ag ai aj hb _ _;have G:b≠g:=by
    rintro rfl;exact D (h.fr.inj s t ag cs ai ht (aj.trans hr.symm))
   exact⟨gi X.w g b cs' G,by simp only[WS.row];rw[a_ G],by simp only[WS.row];rw[a_ G];exact hb⟩
 ·have hx:∀s cs,(fr.put t (.box new)) s=.box cs->∃cs',fr s=.box cs':=λs cs hs=>by
   rw[Fr.put_apply] at hs;by_cases D:s=t
   ·subst D;exact⟨_,ht⟩
   ·rw[a_ D] at hs;exact⟨_,hs⟩
  obtain⟨d1,am⟩:=hx _ _ h1;obtain⟨d2,al⟩:=hx _ _ h2;exact h.fr.inj s s' d1 d2 am al he
 ·intro r h1 h2 _;have G:r≠g:=by rintro rfl;rw[U] at h1;cases h1
  exact⟨(gi X.w g r cs' G).trans h1,by simp only[WS.row];rw[a_ G];exact h2⟩
def AdOk.own {fr:Fr}{ts:Array Value}{ad:Ad}(h:AdOk fr ts ad){t:Nat}(new:List IV):AdOk (fr.put t (.box new)) ts ad:=by
 intro x s off E;obtain⟨A,b,h1,h2,D⟩:=h x s off E;by_cases hst:s=t
 ·exact⟨new,b,by rw[Fr.put_apply,cV hst],h2,D⟩
 ·exact⟨A,b,by rw[Fr.put_apply,a_ hst];exact h1,h2,D⟩
def Inv.box {X0:WS}{N:Nat}{fr:Fr}{ds:List Dfd}{a:Act}(h:Inv C X0 N X fr ds a){d:Nat}(hd:d<N)(c:Array Value)(T:TypeId){cs:List IV}(hv:C.vl X c.toList cs) :
  Inv C X0 N { X with w:=X.w.alloc (.cells c T) } (fr.put d (.box cs)) ds { a with tmps:=a.tmps.setIfInBounds d (.pointer (some ⟨X.w.heap.size,0,none⟩)) }:=by
 have D:X.st X.w.heap.size=none:=by
  cases hs:X.st X.w.heap.size with
  | none=>rfl
  | some o=>have:=h.good.lt hs;omega
 have ac:X.L X.w.heap.size=0:=h.good.Lnew _ (dJ _);have hX:X.new (.cells c T) 0 none={ X with w:=X.w.alloc (.cells c T) }:=by
  unfold WS.new;congr 1
  ·funext b;split
   ·rename_i hb;rw[hb,ac]
   ·rfl
  ·funext b;split
   ·rename_i hb;rw[hb,D]
   ·rfl
 have he:=h.good.new_ext (.cells c T) 0 none;have h':=h.new (.cells c T) 0 none (λi hi=>by cases hi);rw[hX] at he h';have J:d<a.tmps.size:=by rw[h.size];exact hd
 refine⟨h'.good,h'.ext,⟨λt=>?_,λt t' ai ah h1 h2 A=>?_⟩,by simp[h.size],h'.ds⟩
 ·rw[kP,Fr.put_apply];by_cases U:t=d
  ·subst U;rw[cV rfl,cV ⟨rfl,J⟩];exact⟨X.w.heap.size,c,T,rfl,iL _ _,he.vl hv,D,ac,h.ext.size⟩
  ·rw[a_ U,a_ (λE=>U E.1.symm)];exact h'.fr.slot t
 ·rw[Fr.put_apply] at h1 h2;rw[kP,kP] at A;have G:∀s cs',fr s=.box cs'->tm a.tmps s≠.pointer (some ⟨X.w.heap.size,0,none⟩):=λs cs' hs hp=>by
   have:=h.fr.slot s;rw[hs] at this;obtain⟨b,c',T',O,E,_⟩:=this;rw[hp] at O;injection O with O;injection O with O;injection O with O;have:=(iF.1 E).1;omega
  by_cases e1:t=d
  ·by_cases e2:t'=d
   ·rw[e1,e2]
   ·rw[a_ e2] at h2;rw[cV ⟨e1.symm,J⟩,a_ (λE=>e2 E.1.symm)] at A;exact absurd A.symm (G _ _ h2)
  ·by_cases e2:t'=d
   ·rw[a_ e1] at h1;rw[a_ (λE=>e1 E.1.symm),cV ⟨e2.symm,J⟩] at A;exact absurd A (G _ _ h1)
   ·rw[a_ e1] at h1;rw[a_ e2] at h2;rw[a_ (λE=>e1 E.1.symm),a_ (λE=>e2 E.1.symm)] at A;exact h.fr.inj t t' ai ah h1 h2 A
def Inv.put {X0:WS}{N:Nat}{fr:Fr}{ds:List Dfd}{a:Act}(h:Inv C X0 N X fr ds a){d:Nat}(hd:d<N){v:Value}{x:IV}(hv:C.v X v x) :
  Inv C X0 N X (fr.put d (.iv x)) ds { a with tmps:=a.tmps.setIfInBounds d v } :=
 ⟨h.good,h.ext,h.fr.put (by rw[h.size];exact hd) hv,by simp[h.size],h.ds⟩
end
def Hold (_:Bool)(p:Prop):Prop:=p
def dp {α:Type}(o:Option α)(f:α->Prop):Prop:=match o with|some x=>f x|none=>False
@[congr] def Rf {α:Type}{o o':Option α}(f:α->Prop)(h:o=o'):dp o f=dp o' f:=by rw[h]
@[go_sem] def oq {α:Type}(x:α)(f:α->Prop):dp (some x) f=f x:=(rfl)
def yQ3 {α:Type}{o:Option α}{f:α->Prop}:dp o f↔∃x,o=some x/\f x:=by
 cases o<;>simp[dp]
def chk (c q:Prop):Prop:=c/\q
@[congr] def Rg {c A:Prop}(q:Prop)(h:c=A):chk c q=chk A q:=by rw[h]
@[go_sem] def Rh (q:Prop):chk True q=q:=by simp[chk]
def giv (c q:Prop):Prop:=c->q
@[congr] def Ri {c A:Prop}(q:Prop)(h:c=A):giv c q=giv A q:=by rw[h]
inductive Lock.{u}{α:Sort u}(a:α):Type where
 | mk
def jb (b:Bool)(p q:Prop)(_:Lock p)(_:Lock q):Prop:=(b=true->p)/\(b=false->q)
@[congr] def Rj {b A:Bool}(p q:Prop)(k:Lock p)(l:Lock q)(h:b=A):jb b p q k l=jb A p q k l:=by rw[h]
@[go_sem] def H6 (p q:Prop)(k:Lock p)(l:Lock q):jb true p q k l=p:=by simp[jb]
@[go_sem] def H7 (p q:Prop)(k:Lock p)(l:Lock q):jb false p q k l=q:=by simp[jb]
def aggD:TypeDesc->Bool
 | .struct _=>true
 | .array _ _=>true
 | _=>false
def tyI (P:Program)(T:TypeId):Option (Bool×Nat) :=
 match P.underlying T,P.info? T with
 | some d,some i=>some (aggD d,i.size)
 | _,_=>none
def fldI (P:Program)(T:TypeId)(i:Nat):Option (Nat×Bool×Nat) :=
 match P.underlying T with
 | some (.struct A)=>match A[i]? with
  | some f=>match tyI P f.type with
   | some (a,n)=>if 0<n then some (f.offset,a,n) else none
   | none=>none
  | none=>none
 | _=>none
def arrI (P:Program)(T:TypeId):Option (Nat×Bool×Nat) :=
 match P.underlying T with
 | some (.array n e)=>(tyI P e).map λ(a,s)=>(n,a,s)
 | _=>none
def slI (P:Program)(T:TypeId):Option (TypeId×Bool×Nat×Nat) :=
 match P.underlying T with
 | some (.slice e)=>match tyI P e,P.info? e with
  | some (a,s),some i=>if i.zero.map (λz=>z.cells.size)=some s then some (e,a,s,i.bytes) else none
  | _,_=>none
 | _=>none
def ot:Value->Option IV
 | .agg _=>none
 | .tuple _=>none
 | .slice none 0 0=>some (.sl ⟨true,.nil,0⟩ [])
 | .slice _ _ _=>none
 | .string s=>if s.size<=281474976710656 then some (.raw (.string s)) else none
 | .func f ⟨[]⟩ ⟨[]⟩=>some (.fn f [] [])
 | .func _ _ _=>none
 | v=>some (.raw v)
def allI {α β:Type}(f:α->Option β):List α->Option (List β)
 | []=>some []
 | a::l=>match f a,allI f l with
  | some b,some A=>some (b::A)
  | _,_=>none
def qG:Value->Option IV
 | .agg cs=>(allI ot cs.toList).map .agg
 | v=>ot v
def eO (P:Program)(T:TypeId):Option IV:=((P.info? T).bind (·.zero)).bind qG
def intK (P:Program)(T:TypeId):Option IntKind:=match P.underlying T with|some (.int k)=>some k|_=>none
def symT (P:Program)(k:TypeId):List Field->Bool
 | [f,g]=>P.keyType k&&P.keyTypeAt 2 k&&P.tiled 2 k&&f.name != "_" && g.name != "_" && f.offset == 0&&g.offset == 1&&P.cellsOf k == 2&&P.cellsOf f.type == 1&&P.cellsOf g.type == 1&&decide (0<P.types.size) &&
   (match P.underlying f.type with|some .string=>true|_=>false)&&(match P.underlying g.type with|some (.int .i64)=>true|_=>false)
 | _=>false
def sgT (P:Program)(k:TypeId):List Field->Bool
 | [f,g]=>P.keyType k&&P.keyTypeAt 2 k&&P.tiled 2 k&&f.name != "_" && g.name != "_" && f.offset == 0&&g.offset == 1&&P.cellsOf k == 2&&P.cellsOf f.type == 1&&P.cellsOf g.type == 1&&decide (0<P.types.size) &&
   (match P.underlying f.type with|some .bool=>true|_=>false)&&(match P.underlying g.type with|some (.int .u8)=>true|_=>false)
 | _=>false
def plT (P:Program)(k:TypeId):List Field->Bool
 | [f,g]=>P.keyType k&&P.keyTypeAt 2 k&&P.tiled 2 k&&f.name != "_" && g.name != "_" && f.offset == 0&&g.offset == 1&&P.cellsOf k == 2&&P.cellsOf f.type == 1&&P.cellsOf g.type == 1&&decide (0<P.types.size) &&
   (match P.underlying f.type with|some (.int .i64)=>true|_=>false)&&(match P.underlying g.type with|some .bool=>true|_=>false)
 | _=>false
def mapI (P:Program)(T:TypeId):Option (KeyK×IV) :=
 match P.underlying T with
 | some (.map k e)=>match P.underlying k,eO P e with
  | some .string,some z=>some (.str,z)
  | some (.int i),some z=>some (.int i,z)
  | some (.struct A),some z=>if symT P k A.toList=true then some (.sym,z) else if sgT P k A.toList=true then some (.sg,z) else if plT P k A.toList=true then some (.pl,z) else none
  | _,_=>none
 | _=>none
def entI (P:Program)(f:FuncId):Bool :=
 match P.funcs[f]? with
 | some fn=>fn.name != "runtime.NumGoroutine" && fn.body.isSome
 | none=>false
def ivOf:SV->Option IV
 | .iv .junk=>none
 | .iv x=>some x
 | .box _=>none
@[go_sem] def Rk (v:Value):ivOf (.iv (.raw v))=some (.raw v):=(rfl)
@[go_sem] def Rl (v:List IV):ivOf (.iv (.agg v))=some (.agg v):=(rfl)
@[go_sem] def Rm (v:List IV):ivOf (.iv (.tup v))=some (.tup v):=(rfl)
@[go_sem] def Rn (f:Fn)(a b:List IV):ivOf (.iv (.fn f a b))=some (.fn f a b):=(rfl)
@[go_sem] def Ro (t:Tag)(v:List IV):ivOf (.iv (.sl t v))=some (.sl t v):=(rfl)
@[go_sem] def Rp (v:IV):ivOf (.iv (.cptr v))=some (.cptr v):=(rfl)
def IV.def_ (x:IV):Prop:=x≠.junk
attribute [go_sem ↓] Fr.put_apply
def evV (gl:Nat->Option IV)(fr:Fr):Operand->Option IV
 | .tmp t=>ivOf (fr t)
 | .const v=>qG v
 | .global g=>(gl g).map .cptr
 | .func f=>some (.fn (.func f) [] [])
@[go_sem ↓] def oY (gl:Nat->Option IV)(fr:Fr)(t:Nat):evV gl fr (.tmp t)=ivOf (fr t):=(rfl)
@[go_sem ↓] def Rq (gl:Nat->Option IV)(fr:Fr)(k:IntKind)(n:Int):evV gl fr (.const (.int k n))=some (.raw (.int k n)):=(rfl)
@[go_sem ↓] def Rr (gl:Nat->Option IV)(fr:Fr)(b:Bool):evV gl fr (.const (.bool b))=some (.raw (.bool b)):=(rfl)
@[go_sem ↓] def Rs (gl:Nat->Option IV)(fr:Fr):evV gl fr (.const (.slice none 0 0))=some (.sl ⟨true,.nil,0⟩ []):=(rfl)
@[go_sem ↓] def Ru (gl:Nat->Option IV)(fr:Fr)(s:ByteArray):evV gl fr (.const (.string s))=if s.size<=281474976710656 then some (.raw (.string s)) else none:=(rfl)
@[go_sem ↓] def Rv (gl:Nat->Option IV)(fr:Fr)(m:Option Nat):evV gl fr (.const (.map m))=some (.raw (.map m)):=(rfl)
@[go_sem ↓] def Rx (gl:Nat->Option IV)(fr:Fr):evV gl fr (.const .nilFunc)=some (.raw .nilFunc):=(rfl)
@[go_sem ↓] def Ry (gl:Nat->Option IV)(fr:Fr)(a:Option Addr):evV gl fr (.const (.pointer a))=some (.raw (.pointer a)):=(rfl)
@[go_sem ↓] def Rz (gl:Nat->Option IV)(fr:Fr)(cs:Array Value):evV gl fr (.const (.agg cs))=(allI ot cs.toList).map .agg:=(rfl)
@[go_sem ↓] def RA (gl:Nat->Option IV)(fr:Fr)(f:FuncId):evV gl fr (.func f)=some (.fn (.func f) [] []):=(rfl)
def evL (gl:Nat->Option IV)(fr:Fr)(l:List Operand):Option (List IV):=allI (evV gl fr) l
@[go_sem ↓] def RB (gl:Nat->Option IV)(fr:Fr):evL gl fr []=some []:=(rfl)
def vG {α:Type}:Option α->Option (List α)->Option (List α)
 | some a,some l=>some (a::l)
 | _,_=>none
@[go_sem] def H8 {α:Type}(a:α)(l:List α):vG (some a) (some l)=some (a::l):=(rfl)
@[go_sem ↓] def AF (gl:Nat->Option IV)(fr:Fr)(x:Operand)(l:List Operand):evL gl fr (x::l)=vG (evV gl fr x) (evL gl fr l):=by
 unfold evL;rw[allI];cases evV gl fr x<;>cases allI (evV gl fr) l<;>rfl
inductive Pl where
 | box (t off:Nat)
 | ptr (b off:Nat)
 | cp (x:IV)
def plOf (t:Nat):SV->Option Pl
 | .box _=>some (.box t 0)
 | .iv (.raw (.pointer (some ⟨b,off,none⟩)))=>some (.ptr b off)
 | .iv (.cptr x)=>some (.cp x)
 | _=>none
@[go_sem] def RC (t:Nat)(cs:List IV):plOf t (.box cs)=some (.box t 0):=(rfl)
@[go_sem] def RD (t b off:Nat):plOf t (.iv (.raw (.pointer (some ⟨b,off,none⟩))))=some (.ptr b off):=(rfl)
@[go_sem] def RE (t:Nat)(x:IV):plOf t (.iv (.cptr x))=some (.cp x):=(rfl)
def plAd (t:Nat)(fr:Fr):Option (Nat×Nat)->Option Pl
 | some (s,off)=>some (.box s off)
 | none=>plOf t (fr t)
@[go_sem] def RG (t:Nat)(fr:Fr)(s off:Nat):plAd t fr (some (s,off))=some (.box s off):=(rfl)
@[go_sem] def RH (t:Nat)(fr:Fr):plAd t fr none=plOf t (fr t):=(rfl)
attribute [go_sem ↓] Ad.put_apply
@[go_sem] def H9 (t:Nat):Ad.none_ t=none:=(rfl)
@[go_sem] def H_ (d:Nat):Ad.keep d none=none:=(rfl)
def evA (gl:Nat->Option IV)(ad:Ad)(fr:Fr):Operand->Option Pl
 | .tmp t=>plAd t fr (ad t)
 | .global g=>(gl g).map .cp
 | _=>none
@[go_sem ↓] def RI (gl:Nat->Option IV)(ad:Ad)(fr:Fr)(t:Nat):evA gl ad fr (.tmp t)=plAd t fr (ad t):=(rfl)
@[go_sem ↓] def RJ (gl:Nat->Option IV)(ad:Ad)(fr:Fr)(g:Nat):evA gl ad fr (.global g)=(gl g).map .cp:=(rfl)
def gr (ag:Bool)(n:Nat)(cs:List IV)(off:Nat):Option IV :=
 if ag then (if off+n<=cs.length then some (.agg ((cs.drop off).take n)) else none) else cs[off]?
@[go_sem] def RK (n:Nat)(cs:List IV)(off:Nat):gr true n cs off=if off+n<=cs.length then some (.agg ((cs.drop off).take n)) else none:=(rfl)
@[go_sem] def RL (n:Nat)(cs:List IV)(off:Nat):gr false n cs off=cs[off]?:=(rfl)
def fB (cs:List IV)(off:Nat)(l:List IV):List IV:=cs.take off++l++cs.drop (off+l.length)
def fits (ag:Bool)(n:Nat):IV->Bool
 | .agg cs=>ag&&cs.length == n&&cs.all IV.one
 | x=>!ag&&x.one&&n == 1
@[go_sem] def RM (n:Nat)(cs:List IV):fits true n (.agg cs)=(cs.length == n&&cs.all IV.one):=by simp[fits]
@[go_sem] def RN (n:Nat)(v:Value):fits false n (.raw v)=(IV.one (.raw v)&&n == 1):=by simp[fits]
@[go_sem] def RO (n:Nat)(t:Tag)(v:List IV):fits false n (.sl t v)=(n == 1):=by simp[fits,IV.one]
@[go_sem] def RP (n:Nat)(x:IV):fits false n (.cptr x)=(n == 1):=by simp[fits,IV.one]
@[go_sem] def Ia (k:IntKind)(n:Int):IV.one (.raw (.int k n))=true:=(rfl)
@[go_sem] def AG (b:Bool):IV.one (.raw (.bool b))=true:=(rfl)
@[go_sem] def AH (s:ByteArray):IV.one (.raw (.string s))=true:=(rfl)
@[go_sem] def AI (a:Option Addr):IV.one (.raw (.pointer a))=true:=(rfl)
@[go_sem] def AJ (a:Option Nat):IV.one (.raw (.map a))=true:=(rfl)
@[go_sem] def AL:IV.one (.raw .nilFunc)=true:=(rfl)
@[go_sem] def IV.one_sl (t:Tag)(v:List IV):IV.one (.sl t v)=true:=(rfl)
@[go_sem] def IV.one_fn (f:Fn)(a b:List IV):IV.one (.fn f a b)=true:=(rfl)
@[go_sem] def AM (x:IV):IV.one (.cptr x)=true:=(rfl)
@[go_sem] def jS (cs:List IV):IV.cells (.agg cs)=cs:=(rfl)
@[go_sem] def AN (v:Value):IV.cells (.raw v)=[.raw v]:=(rfl)
@[go_sem] def AO (t:Tag)(v:List IV):IV.cells (.sl t v)=[.sl t v]:=(rfl)
@[go_sem] def AP (f:Fn)(a b:List IV):IV.cells (.fn f a b)=[.fn f a b]:=(rfl)
@[go_sem] def AQ (x:IV):IV.cells (.cptr x)=[.cptr x]:=(rfl)
def ISt.put (st:ISt)(b:Nat)(o:Option IObj):ISt:=λc=>if c=b then o else st c
def ISt.put_apply (st:ISt)(b:Nat)(o:Option IObj)(c:Nat):st.put b o c=if c=b then o else st c:=rfl
@[go_sem] def b_ (st:ISt)(b:Nat)(o:Option IObj):st.put b o b=o:=cV rfl
def cmpI (op:BinOp)(x y:Int):Option Value :=
 match op with
 | .eql=>some (.bool (decide (x=y)))
 | .neq=>some (.bool (!decide (x=y)))
 | .lss=>some (.bool (decide (x<y)))
 | .leq=>some (.bool (decide (x<=y)))
 | .gtr=>some (.bool (decide (y<x)))
 | .geq=>some (.bool (decide (y<=x)))
 | _=>none
def binI (P:Program)(T:TypeId)(op:BinOp):Value->Value->Option Value
 | .int k x,.int A y =>
  if op=.shl then (if 0<=y then some (.int k (k.wrap (x*2 ^ (min y.toNat k.bits)))) else none)
  else if op=.shr then (if 0<=y then some (.int k (x.fdiv (2 ^ (min y.toNat k.bits)))) else none)
  else if k=A then
   match op with
   | .and=>some (.int k (k.wrap ((BitVec.ofInt k.bits x &&& BitVec.ofInt k.bits y).toNat:Int)))
   | .andNot=>some (.int k (k.wrap ((BitVec.ofInt k.bits x &&& ~~~(BitVec.ofInt k.bits y)).toNat:Int)))
   | .add=>some (.int k (k.wrap (x+y)))
   | .sub=>some (.int k (k.wrap (x-y)))
   | .mul=>some (.int k (k.wrap (x*y)))
   | .quo=>if y=0 then none else some (.int k (k.wrap (x.tdiv y)))
   | .rem=>if y=0 then none else some (.int k (x.tmod y))
   | op=>cmpI op x y
  else none
 | .string a,.string b =>
  match op with
  | .add=>if a.size+b.size<=281474976710656 then some (.string (a++b)) else none
  | .eql=>some (.bool (decide (a=b)))
  | .neq=>some (.bool (!decide (a=b)))
  | .lss=>some (.bool (Op.bytesLess a.data.toList b.data.toList))
  | .leq=>some (.bool (Op.bytesLess a.data.toList b.data.toList || decide (a=b)))
  | .gtr=>some (.bool (!(Op.bytesLess a.data.toList b.data.toList || decide (a=b))))
  | .geq=>some (.bool (!(Op.bytesLess a.data.toList b.data.toList)))
  | _=>none
 | .bool a,.bool b =>
  match P.underlying T with
  | some .bool =>
   match op with
   | .eql=>some (.bool (a == b))
   | .neq=>some (.bool (!(a == b)))
   | _=>none
  | _=>none
 | _,_=>none
section
variable (P:Program)(T:TypeId)(k:IntKind)(x y:Int)(a b:ByteArray)
@[go_sem] def RU:binI P T .add (.int k x) (.int k y)=some (.int k (k.wrap (x+y))):=by simp[binI]
@[go_sem] def RV:binI P T .sub (.int k x) (.int k y)=some (.int k (k.wrap (x-y))):=by simp[binI]
@[go_sem] def RW (A:IntKind):binI P T .shr (.int k x) (.int A y)=if 0<=y then some (.int k (x.fdiv (2 ^ (min y.toNat k.bits)))) else none:=by simp[binI]
@[go_sem] def RX:binI P T .quo (.int k x) (.int k y)=if y=0 then none else some (.int k (k.wrap (x.tdiv y))):=by simp[binI]
@[go_sem] def RY:binI P T .eql (.int k x) (.int k y)=some (.bool (decide (x=y))):=by simp[binI,cmpI]
@[go_sem] def RZ:binI P T .neq (.int k x) (.int k y)=some (.bool (!decide (x=y))):=by simp[binI,cmpI]
@[go_sem] def R0:binI P T .lss (.int k x) (.int k y)=some (.bool (decide (x<y))):=by simp[binI,cmpI]
@[go_sem] def R1:binI P T .leq (.int k x) (.int k y)=some (.bool (decide (x<=y))):=by simp[binI,cmpI]
@[go_sem] def R2:binI P T .gtr (.int k x) (.int k y)=some (.bool (decide (y<x))):=by simp[binI,cmpI]
@[go_sem] def R3:binI P T .geq (.int k x) (.int k y)=some (.bool (decide (y<=x))):=by simp[binI,cmpI]
@[go_sem] def R4:binI P T .add (.string a) (.string b)=if a.size+b.size<=281474976710656 then some (.string (a++b)) else none:=(rfl)
@[go_sem] def R5:binI P T .eql (.string a) (.string b)=some (.bool (decide (a=b))):=(rfl)
@[go_sem] def R6:binI P T .neq (.string a) (.string b)=some (.bool (!decide (a=b))):=(rfl)
end
def qH (P:Program)(T:TypeId):Bool:=match P.underlying T with|some .bool=>true|_=>false
@[go_sem] def R7 (P:Program)(T:TypeId)(h:qH P T=true)(a b:Bool):binI P T .eql (.bool a) (.bool b)=some (.bool (a == b)):=by
 unfold qH at h;unfold binI;split at h<;>simp_all
@[go_sem] def R8 (P:Program)(T:TypeId)(h:qH P T=true)(a b:Bool):binI P T .neq (.bool a) (.bool b)=some (.bool (!(a == b))):=by
 unfold qH at h;unfold binI;split at h<;>simp_all
def kx:IV->Option Bool
 | .sl ⟨_,.nil,_⟩ _=>some true
 | .sl ⟨_,.app _,_⟩ _=>some false
 | .sl _ (_::_)=>some false
 | _=>none
def nq (P:Program)(T:TypeId):Bool:=match P.underlying T with|some (.slice _)=>true|_=>false
def binV (P:Program)(T:TypeId)(op:BinOp):IV->IV->Option IV
 | .raw x,.raw y=>(binI P T op x y).map .raw
 | .sl t A,.sl ⟨_,.nil,_⟩ _=>if nq P T then (match op with
   | .eql=>(kx (.sl t A)).map λb=>.raw (.bool b)
   | .neq=>(kx (.sl t A)).map λb=>.raw (.bool !b)
   | _=>none) else none
 | _,_=>none
@[go_sem] def R9 (P:Program)(T:TypeId)(op:BinOp)(x y:Value):binV P T op (.raw x) (.raw y)=(binI P T op x y).map .raw:=(rfl)
def unI (op:UnOp):IV->Option IV
 | .raw (.bool b)=>match op with
  | .not=>some (.raw (.bool !b))
  | _=>none
 | .raw (.int k n)=>match op with
  | .neg=>some (.raw (.int k (k.wrap (0-n))))
  | _=>none
 | _=>none
@[go_sem] def R_ (b:Bool):unI .not (.raw (.bool b))=some (.raw (.bool !b)):=(rfl)
def qI (P:Program)(T:TypeId):Bool:=match P.underlying T with
 | some (.slice e)=>(match P.underlying e with|some (.int .u8)=>true|_=>false)
 | _=>false
def strT (P:Program)(T:TypeId):Bool:=match P.underlying T with|some .string=>true|_=>false
def kQ:List IV->Option (List UInt8)
 | []=>some []
 | .raw (.int .u8 n)::l=>if 0<=n/\n<256 then (kQ l).map (UInt8.ofNat n.toNat::·) else none
 | _=>none
@[go_sem] def Ib (b:UInt8)(l:List IV):kQ (.raw (.int .u8 (b.toNat:Int))::l)=(kQ l).map (b::·):=by
 have:=b.toNat_lt;simp only[kQ];rw[cV ⟨by omega,by omega⟩];simp
def nr (P:Program)(src dst:TypeId):IV->Option IV
 | .sl _ A=>if qI P src=true/\strT P dst=true then (kQ A).bind λl=>if l=[] then none else some (.raw (.string ⟨l.toArray⟩)) else none
 | .raw (.int _ n)=>match P.underlying src,P.underlying dst with
  | some (.int _),some (.int k)=>some (.raw (.int k (k.wrap n)))
  | _,_=>none
 | _=>none
@[go_sem] def l7 (P:Program)(src dst:TypeId){k A:IntKind}(h:intK P src=some k)(D:intK P dst=some A)(j:IntKind)(n:Int) :
  nr P src dst (.raw (.int j n))=some (.raw (.int A (A.wrap n))):=by
 unfold intK at h D;unfold nr;split at h<;>split at D<;>simp_all
@[go_sem] def Sa (P:Program)(src dst:TypeId)(t:Tag)(A:List IV)(h:qI P src=true)(D:strT P dst=true) :
  nr P src dst (.sl t A)=(kQ A).bind λl=>if l=[] then none else some (.raw (.string ⟨l.toArray⟩)):=by simp[nr,h,D]
def sJ:List Value->List Value->Bool
 | [.string a,.int _ n],[.string b,.int _ m]=>decide (a=b)&&decide (n=m)
 | [.bool a,.int _ n],[.bool b,.int _ m]=>decide (a=b)&&decide (n=m)
 | [.int _ n,.bool a],[.int _ m,.bool b]=>decide (n=m)&&decide (a=b)
 | _,_=>false
def gN:Value->Value->Bool
 | .string a,.string b=>decide (a=b)
 | .int _ a,.int _ b=>decide (a=b)
 | .agg a,.agg b=>sJ a.toList b.toList
 | _,_=>false
def keyI:Value->Option IV
 | .string s=>if s.size<=281474976710656 then some (.raw (.string s)) else none
 | .int k n=>some (.raw (.int k n))
 | .agg cs=>match cs.toList with
  | [.string s,.int k n]=>if s.size<=281474976710656 then some (.agg [.raw (.string s),.raw (.int k n)]) else none
  | [.bool b,.int k n]=>some (.agg [.raw (.bool b),.raw (.int k n)])
  | [.int k n,.bool b]=>some (.agg [.raw (.int k n),.raw (.bool b)])
  | _=>none
 | _=>none
def sK (A:Array MapEntry)(seen:Array Nat):List MapEntry:=A.toList.filter λe=>!seen.contains e.born
def AR (A:Array MapEntry)(seen:Array Nat):Option IV:=seen.back?.bind λb=>(A.toList.find? λe=>e.born == b).bind λe=>keyI e.key
def valI:Value->IV
 | .int k n=>.raw (.int k n)
 | _=>.junk
def vH (A:Array MapEntry)(seen:Array Nat):IV:=match seen.back?.bind λb=>A.toList.find? λe=>e.born == b with
 | some e=>valI e.val
 | none=>.junk
def fZ (k:Value):List (Value×IV)->Option IV
 | []=>none
 | (x,v)::l=>if gN k x then some v else fZ k l
def updI (k:Value)(v:IV):List (Value×IV)->List (Value×IV)
 | []=>[(k,v)]
 | (x,u)::l=>if gN k x then (k,v)::l else (x,u)::updI k v l
end Go.Iv
def dEf {p:Prop} [Decidable p](h:¬p):decide p=false:=decide_eq_false h
def dEt {p:Prop} [Decidable p](h:p):decide p=true:=decide_eq_true h
def iNn (n:Nat):(0:Int)<=(n:Int):=Int.natCast_nonneg n
def lMg {α:Type _}{l:List α}{i:Nat}{a:α}(h:l[i]?=some a):a∈l:=List.mem_of_getElem? h
def lTl {α:Type _}{l:List α}:l.take l.length=l:=List.take_length
def bAt (a b:Bool):((a&&b)=true)=(a=true/\b=true):=Bool.and_eq_true a b
def nLi (n:Nat):¬n<n:=Nat.lt_irrefl n
def lLa {α:Type _}{l m:List α}:(l++m).length=l.length+m.length:=List.length_append
def lGs {α:Type _}{l:List α}{i:Nat}{a:α}(h:l[i]?=some a):∃h:i<l.length,l[i]=a:=my.1 h
def nTf:(¬True)=False:=not_true_eq_false
def nFt:(¬False)=True:=not_false_eq_true
def bFt:(false=true)=False:=Bool.false_eq_true
def dTe {p:Prop} [Decidable p]:(decide p=true)=p:=decide_eq_true_eq
def lSm {α:Type _} [SizeOf α]{a:α}{l:List α}(h:a∈l):sizeOf a<sizeOf l:=List.sizeOf_lt_of_mem h
