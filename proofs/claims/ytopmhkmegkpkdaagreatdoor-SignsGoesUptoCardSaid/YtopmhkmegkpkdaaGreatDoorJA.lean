/- The layer of ideal values, part A: ideal -/
import Derived.OrdersIn
import Derived.Laws.CopyRow
import Derived.RangeFuncRecord
import Derived.DeepKeys4
set_option linter.all false
theorem gx:type_of% @Array.getD_eq_getD_getElem?:=@Array.getD_eq_getD_getElem?
theorem jj:type_of% @Array.getElem?_eq_getElem:=@Array.getElem?_eq_getElem
theorem gO:type_of% @Array.getElem?_eq_some_iff:=@Array.getElem?_eq_some_iff
theorem pw:type_of% @Array.getElem?_toList:=@Array.getElem?_toList
theorem kd:type_of% @Array.length_toList:=@Array.length_toList
theorem lz:type_of% @Array.size_setIfInBounds:=@Array.size_setIfInBounds
theorem me:type_of% @Bool.and_assoc:=@Bool.and_assoc
theorem i_:type_of% @Bool.and_false:=@Bool.and_false
theorem jk:type_of% @Bool.and_true:=@Bool.and_true
theorem mf:type_of% @Bool.eq_iff_iff:=@Bool.eq_iff_iff
theorem fk:type_of% @Bool.false_and:=@Bool.false_and
theorem fV:type_of% @Bool.not_eq_true':=@Bool.not_eq_true'
theorem jQ:type_of% @Bool.not_false:=@Bool.not_false
theorem fW:type_of% @Bool.not_true:=@Bool.not_true
theorem kx:type_of% @Bool.or_eq_false_iff:=@Bool.or_eq_false_iff
theorem iU:type_of% @Bool.or_eq_true:=@Bool.or_eq_true
theorem eM:type_of% @Bool.true_and:=@Bool.true_and
theorem fL:type_of% @Classical.byContradiction:=@Classical.byContradiction
theorem kA:type_of% @Go.DataW.trod_struct:=@Go.DataW.trod_struct
theorem jl:type_of% @Int.toNat_natCast:=@Int.toNat_natCast
theorem lA:type_of% @List.all_eq_false:=@List.all_eq_false
theorem ed:type_of% @List.all_eq_true:=@List.all_eq_true
theorem jm:type_of% @List.any_eq_true:=@List.any_eq_true
theorem fA:type_of% @List.append_assoc:=@List.append_assoc
theorem fH:type_of% @List.append_nil:=@List.append_nil
theorem dX:type_of% @List.cons_append:=@List.cons_append
theorem kC:type_of% @List.drop_drop:=@List.drop_drop
theorem fM:type_of% @List.drop_eq_getElem_cons:=@List.drop_eq_getElem_cons
theorem jR:type_of% @List.drop_left:=@List.drop_left
theorem eN:type_of% @List.eq_nil_of_length_eq_zero:=@List.eq_nil_of_length_eq_zero
theorem lB:type_of% @List.eq_of_mem_replicate:=@List.eq_of_mem_replicate
theorem lC:type_of% @List.filter_append:=@List.filter_append
theorem lD:type_of% @List.find?_append:=@List.find?_append
theorem iu:type_of% @List.flatMap_append:=@List.flatMap_append
theorem ff:type_of% @List.flatMap_cons:=@List.flatMap_cons
theorem lE:type_of% @List.flatMap_singleton:=@List.flatMap_singleton
theorem jS:type_of% @List.foldl_cons:=@List.foldl_cons
theorem fP:type_of% @List.getElem?_append_left:=@List.getElem?_append_left
theorem gh:type_of% @List.getElem?_append_right:=@List.getElem?_append_right
theorem iV:type_of% @List.getElem?_cons_succ:=@List.getElem?_cons_succ
theorem fC:type_of% @List.getElem?_cons_zero:=@List.getElem?_cons_zero
theorem ix:type_of% @List.getElem?_drop:=@List.getElem?_drop
theorem ee:type_of% @List.getElem?_eq_getElem:=@List.getElem?_eq_getElem
theorem lF:type_of% @List.getElem?_eq_none:=@List.getElem?_eq_none
theorem mJ:type_of% @List.getElem?_eq_some_iff:=@List.getElem?_eq_some_iff
theorem en:type_of% @List.getElem?_map:=@List.getElem?_map
theorem fl:type_of% @List.getElem?_take:=@List.getElem?_take
theorem eG:type_of% @List.length_cons:=@List.length_cons
theorem fp:type_of% @List.length_drop:=@List.length_drop
theorem fX:type_of% @List.length_eq_zero_iff:=@List.length_eq_zero_iff
theorem iW:type_of% @List.length_filter_le:=@List.length_filter_le
theorem gj:type_of% @List.length_map:=@List.length_map
theorem fN:type_of% @List.length_nil:=@List.length_nil
theorem iX:type_of% @List.length_replicate:=@List.length_replicate
theorem iY:type_of% @List.length_singleton:=@List.length_singleton
theorem dO:type_of% @List.length_take:=@List.length_take
theorem jn:type_of% @List.map_append:=@List.map_append
theorem eo:type_of% @List.map_cons:=@List.map_cons
theorem fm:type_of% @List.map_nil:=@List.map_nil
theorem jo:type_of% @List.map_toArray:=@List.map_toArray
theorem eX:type_of% @List.mem_append:=@List.mem_append
theorem dC:type_of% @List.mem_cons:=@List.mem_cons
theorem jq:type_of% @List.mem_filter:=@List.mem_filter
theorem iy:type_of% @List.mem_flatMap:=@List.mem_flatMap
theorem eP:type_of% @List.mem_map:=@List.mem_map
theorem lG:type_of% @List.mem_of_mem_drop:=@List.mem_of_mem_drop
theorem gy:type_of% @List.mem_range:=@List.mem_range
theorem fD:type_of% @List.mem_singleton:=@List.mem_singleton
theorem gz:type_of% @List.nil_append:=@List.nil_append
theorem e_:type_of% @List.not_mem_nil:=@List.not_mem_nil
theorem eF:type_of% @List.take_append_drop:=@List.take_append_drop
theorem gP:type_of% @List.take_append_of_le_length:=@List.take_append_of_le_length
theorem gA:type_of% @List.take_of_length_le:=@List.take_of_length_le
theorem kD:type_of% @List.take_succ_cons:=@List.take_succ_cons
theorem fa:type_of% @Nat.add_assoc:=@Nat.add_assoc
theorem ek:type_of% @Nat.add_mul:=@Nat.add_mul
theorem jr:type_of% @Nat.add_zero:=@Nat.add_zero
theorem dz:type_of% @Nat.le_refl:=@Nat.le_refl
theorem eh:type_of% @Nat.le_trans:=@Nat.le_trans
theorem kE:type_of% @Nat.lt_of_lt_of_le:=@Nat.lt_of_lt_of_le
theorem jT:type_of% @Nat.lt_or_ge:=@Nat.lt_or_ge
theorem dM:type_of% @Nat.lt_succ_self:=@Nat.lt_succ_self
theorem js:type_of% @Nat.lt_trans:=@Nat.lt_trans
theorem kF:type_of% @Nat.min_eq_left:=@Nat.min_eq_left
theorem jU:type_of% @Nat.mul_comm:=@Nat.mul_comm
theorem ec:type_of% @Nat.mul_le_mul_right:=@Nat.mul_le_mul_right
theorem jt:type_of% @Nat.one_mul:=@Nat.one_mul
theorem jV:type_of% @Nat.sub_self:=@Nat.sub_self
theorem eQ:type_of% @Nat.zero_add:=@Nat.zero_add
theorem fQ:type_of% @Nat.zero_le:=@Nat.zero_le
theorem fY:type_of% @Nat.zero_mul:=@Nat.zero_mul
theorem kG:type_of% @Option.bind_some:=@Option.bind_some
theorem gm:type_of% @Option.getD_none:=@Option.getD_none
theorem fI:type_of% @Option.getD_some:=@Option.getD_some
theorem ju:type_of% @Option.isSome_none:=@Option.isSome_none
theorem gI:type_of% @Option.map_eq_some_iff:=@Option.map_eq_some_iff
theorem jv:type_of% @Option.map_none:=@Option.map_none
theorem fg:type_of% @Option.map_some:=@Option.map_some
theorem eK:type_of% @Option.some.inj:=@Option.some.inj
theorem dL:type_of% @Option.some.injEq:=@Option.some.injEq
theorem cW:type_of% @Go.Result.andThen_ok:=@Go.Result.andThen_ok
theorem cX:type_of% @Go.Sem.run_bind:=@Go.Sem.run_bind
theorem c_:type_of% @Go.Sem.run_pure:=@Go.Sem.run_pure
theorem et:type_of% @congrArg:=@congrArg
theorem dR:type_of% @decide_true:=@decide_true
theorem fq:type_of% @Go.getD_set_ne:=@Go.getD_set_ne
theorem dJ:type_of% @if_false:=@if_false
theorem a_:type_of% @if_neg:=@if_neg
theorem b_:type_of% @if_pos:=@if_pos
theorem dB:type_of% @if_true:=@if_true
theorem fb:type_of% @Go.mem_ready:=@Go.mem_ready
theorem ft:type_of% @of_decide_eq_false:=@of_decide_eq_false
theorem eI:type_of% @of_decide_eq_true:=@of_decide_eq_true
theorem eu:type_of% @or_false:=@or_false
theorem dS:type_of% @Go.run_underlying:=@Go.run_underlying
theorem fU:type_of% @Go.setRow_heap:=@Go.setRow_heap
theorem gn:type_of% @Go.setRow_other:=@Go.setRow_other
theorem gp:type_of% @Go.wpIn_mono:=@Go.wpIn_mono
namespace Go.Iv
open Go
inductive Cap where
 | none
 | nil
 | full
 | app (g:Nat)
 deriving DecidableEq
structure Tag where
 fresh:Bool
 cap:Cap
 es:Nat
inductive IV where
 | raw (v:Value)
 | agg (cs:List IV)
 | tup (vs:List IV)
 | fn (f:Fn) (first caps:List IV)
 | sl (t:Tag) (xs:List IV)
 | cptr (x:IV)
 | junk
instance :Coe Int IV:=⟨λn=>.raw (.int .i64 n)⟩
instance :Coe Nat IV:=⟨λn=>.raw (.int .i64 (n:Int))⟩
instance :Coe Bool IV:=⟨λn=>.raw (.bool n)⟩
instance :Coe ByteArray IV:=⟨λn=>.raw (.string n)⟩
instance :Coe Unit IV:=⟨λ_=>.sl ⟨true,.nil,0⟩ []⟩
def IV.cells:IV->List IV
 | .agg cs=>cs
 | x=>[x]
def IV.one:IV->Bool
 | .raw (.agg _)=>false
 | .raw (.tuple _)=>false
 | .raw _=>true
 | .fn ..=>true
 | .sl ..=>true
 | .cptr _=>true
 | _=>false
def kH:Cap->Option Addr->Nat->Nat->Prop
 | .none,_,_,_=>True
 | .nil,a,n,c=>a=Option.none/\n=0/\c=0
 | .full,_,n,c=>c=n
 | .app g,a,_,_=>a=some ⟨g,0,Option.none⟩
def kI:Value->Prop
 | .string s=>s.size<=281474976710656
 | _=>True
def shq (w:World)(b:Nat):Option ((TypeId×Nat)×Bool) :=
 match w.heap[b]? with
 | some (.cells c e f)=>some ((e,c.size),f == (0,0))
 | _=>none
def ety (w:World)(b:Nat):Option TypeId:=(shq w b).map (·.1.1)
inductive V (B:Nat)(L:Nat->Nat)(w:World):Value->IV->Prop
 | raw (v:Value) (h:kI v):V B L w v (.raw v)
 | junk (v:Value):V B L w v .junk
 | agg (rs:List Value) (cs:List IV) (hl:rs.length=cs.length) (h:∀(i:Nat) (r:Value) (c:IV),rs[i]?=some r->cs[i]?=some c->V B L w r c) :
   V B L w (.agg ⟨rs⟩) (.agg cs)
 | tup (rs:List Value) (cs:List IV) (hl:rs.length=cs.length) (h:∀(i:Nat) (r:Value) (c:IV),rs[i]?=some r->cs[i]?=some c->V B L w r c) :
   V B L w (.tuple ⟨rs⟩) (.tup cs)
 | fn (f:Fn) (rs:List Value) (cs:List IV) (hl:rs.length=cs.length) (h:∀(i:Nat) (r:Value) (c:IV),rs[i]?=some r->cs[i]?=some c->V B L w r c)
   (rs':List Value) (cs':List IV) (hl':rs'.length=cs'.length) (h':∀(i:Nat) (r:Value) (c:IV),rs'[i]?=some r->cs'[i]?=some c->V B L w r c) :
   V B L w (.func f ⟨rs⟩ ⟨rs'⟩) (.fn f cs cs')
 | sl (a:Option Addr) (cap:Nat) (t:Tag) (xs:List IV) (T:TypeId) (vs:List Value)
   (hcap:kH t.cap a xs.length cap) (hlen:xs.length<=140737488355328) (hcl:xs.length<=cap)
   (hs:∀x∈xs,x.cells.length=t.es) (hvl:vs.length=xs.length*t.es)
   (hroom:∀g,t.cap=.app g->∃T' k,shq w g=some ((T',k),true)/\cap*t.es<=k)
   (hfresh:t.fresh=true->∀ad:Addr,a=some ad->B<=ad.block/\ad.off%t.es=0/\ety w ad.block=some T)
   (hplace:xs≠[]->∃ad:Addr,a=some ad/\ad.spot=Option.none/\ad.off+vs.length<=L ad.block /\
    (∀(i:Nat) (r:Value),vs[i]?=some r->w.cell? ⟨ad.block,ad.off+i,Option.none⟩=some r))
   (h:∀(i:Nat) (r:Value) (c:IV),vs[i]?=some r->(xs.flatMap IV.cells)[i]?=some c->V B L w r c) :
   V B L w (.slice a xs.length cap) (.sl t xs)
 | cptr (ad:Addr) (x:IV) (vs:List Value) (hsp:ad.spot=Option.none) (hvl:vs.length=x.cells.length) (hL:ad.off+vs.length<=L ad.block)
   (hc:∀(i:Nat) (r:Value),vs[i]?=some r->w.cell? ⟨ad.block,ad.off+i,Option.none⟩=some r)
   (h:∀(i:Nat) (r:Value) (c:IV),vs[i]?=some r->x.cells[i]?=some c->V B L w r c) :
   V B L w (.pointer (some ad)) (.cptr x)
def V.mono {B:Nat}{L L':Nat->Nat}{w w':World}{r:Value}{x:IV}(h:V B L w r x)(hL:∀b,L b<=L' b)
  (hc:∀b i,i<L b->w'.cell? ⟨b,i,none⟩=w.cell? ⟨b,i,none⟩) (hT:∀b p,shq w b=some p->shq w' b=some p):V B L' w' r x:=by
 induction h with
 | raw v h=>exact .raw v h
 | junk v=>exact .junk v
 | agg rs cs hl _ D=>exact .agg rs cs hl D
 | tup rs cs hl _ D=>exact .tup rs cs hl D
 | fn f rs cs hl _ ai cs' an _ D aj=>exact .fn f rs cs hl D ai cs' an aj
 | sl a cap t xs T vs ag ae ao hs U aa O E _ D =>
  refine .sl a cap t xs T vs ag ae ao hs U (λg hg=>?_) (λhf ad ha=>?_) (λam=>?_) D
  ·obtain⟨T',k,h1,h2⟩:=aa g hg;exact⟨T',k,hT _ _ h1,h2⟩
  ·obtain⟨h1,h2,h3⟩:=O hf ad ha;refine⟨h1,h2,?_⟩;unfold ety at h3 ⊢;cases hq:shq w ad.block with
   | none=>simp[hq] at h3
   | some p=>rw[hT _ _ hq];rw[hq] at h3;exact h3
  ·obtain⟨ad,ha,W,ab,A⟩:=E am;refine⟨ad,ha,W,eh ab (hL _),λi r hr=>?_⟩;have hi:=(mJ.1 hr).1;rw[hc _ _ (by omega)];exact A i r hr
 | cptr ad x vs W U ab A _ D =>
  refine .cptr ad x vs W U (eh ab (hL _)) (λi r hr=>?_) D;have hi:=(mJ.1 hr).1;rw[hc _ _ (by omega)];exact A i r hr
def VL (B:Nat)(L:Nat->Nat)(w:World)(rs:List Value)(cs:List IV):Prop :=
 rs.length=cs.length/\∀(i:Nat) (r:Value) (c:IV),rs[i]?=some r->cs[i]?=some c->V B L w r c
def VL.mono {B:Nat}{L L':Nat->Nat}{w w':World}{r:List Value}{x:List IV}(h:VL B L w r x)(E:∀b,L b<=L' b)
  (hc:∀b i,i<L b->w'.cell? ⟨b,i,none⟩=w.cell? ⟨b,i,none⟩) (D:∀b p,shq w b=some p->shq w' b=some p):VL B L' w' r x :=
 ⟨h.1,λi r c A hx=>(h.2 i r c A hx).mono E hc D⟩
section
variable {B:Nat}{L:Nat->Nat}{w:World}
def VL.nil:VL B L w [] []:=⟨rfl,λi r c h=>by simp at h⟩
def VL.cons {r:Value}{c:IV}{rs:List Value}{cs:List IV}(h:V B L w r c)(E:VL B L w rs cs):VL B L w (r::rs) (c::cs) :=
 ⟨by simp[E.1],λi a b D A=>by
  cases i with
  | zero=>simp at D A;exact D▸A▸h
  | succ i=>exact E.2 i a b (by simpa using D) (by simpa using A)⟩
def VL.get {rs:List Value}{cs:List IV}(h:VL B L w rs cs){i:Nat}{c:IV}(hc:cs[i]?=some c):∃r,rs[i]?=some r/\V B L w r c:=by
 have D:=(mJ.1 hc).1;have A:rs[i]?=some (rs[i]'(by rw[h.1];exact D)):=ee _;exact⟨_,A,h.2 i _ _ A hc⟩
def VL.append {D E:List Value}{W U:List IV}(h1:VL B L w D W)(h2:VL B L w E U):VL B L w (D++E) (W++U):=by
 refine⟨by simp[h1.1,h2.1],λi r c A hc=>?_⟩;by_cases O:i<D.length
 ·rw[fP O] at A;rw[fP (by rw[<- h1.1];exact O)] at hc;exact h1.2 i r c A hc
 ·rw[gh (by omega)] at A;rw[gh (by rw[<- h1.1];omega),<- h1.1] at hc;exact h2.2 _ r c A hc
def VL.take {rs:List Value}{cs:List IV}(h:VL B L w rs cs)(n:Nat):VL B L w (rs.take n) (cs.take n):=by
 refine⟨by simp[h.1],λi r c A hc=>?_⟩;rw[fl] at A hc;split at A<;>rename_i D
 ·rw[b_ D] at hc;exact h.2 i r c A hc
 ·cases A
def VL.drop {rs:List Value}{cs:List IV}(h:VL B L w rs cs)(n:Nat):VL B L w (rs.drop n) (cs.drop n):=by
 refine⟨by simp[h.1],λi r c A hc=>?_⟩;rw[ix] at A hc;exact h.2 _ r c A hc
def VL.set {rs:List Value}{cs:List IV}(h:VL B L w rs cs)(i:Nat){v:Value}{x:IV}(E:V B L w v x):VL B L w (rs.set i v) (cs.set i x):=by
 refine⟨by simp[h.1],λj r c A hc=>?_⟩;rw[List.getElem?_set] at A hc;by_cases D:i=j
 ·rw[b_ D] at A hc;split at A
  ·rw[b_ (by rw[<- h.1];assumption)] at hc;cases A;cases hc;exact E
  ·cases A
 ·rw[a_ D] at A hc;exact h.2 j r c A hc
def lH {r:Value}{cs:List IV}(h:V B L w r (.agg cs)):∃rs:List Value,r=.agg ⟨rs⟩/\VL B L w rs cs:=by
 cases h with
 | agg rs cs A h=>exact⟨rs,rfl,A,h⟩
def qC {r:Value}{cs:List IV}(h:V B L w r (.tup cs)):∃rs:List Value,r=.tuple ⟨rs⟩/\VL B L w rs cs:=by
 cases h with
 | tup rs cs A h=>exact⟨rs,rfl,A,h⟩
def kJ {r:Value}{f:Fn}{cs cs':List IV}(h:V B L w r (.fn f cs cs')):∃rs A:List Value,r=.func f ⟨rs⟩ ⟨A⟩/\VL B L w rs cs/\VL B L w A cs':=by
 cases h with
 | fn f rs cs E h A cs' D O=>exact⟨rs,A,rfl,⟨E,h⟩,D,O⟩
def dQ {r v:Value}(h:V B L w r (.raw v)):r=v:=by
 cases h;rfl
def qD {r v:Value}(h:V B L w r (.raw v)):kI v:=by
 cases h;assumption
def VL.agg {rs:List Value}{cs:List IV}(h:VL B L w rs cs):V B L w (.agg ⟨rs⟩) (.agg cs):=.agg rs cs h.1 h.2
def VL.tup {rs:List Value}{cs:List IV}(h:VL B L w rs cs):V B L w (.tuple ⟨rs⟩) (.tup cs):=.tup rs cs h.1 h.2
def V.cells {r:Value}{x:IV}(h:V B L w r x)(hx:∀v,x≠.raw (.agg v))(hj:x≠.junk):VL B L w r.cells.toList x.cells:=by
 cases h with
 | raw _ h =>
  have:r.cells=#[r]:=by cases r<;>first|rfl|exact absurd rfl (hx _)
  rw[this];exact VL.cons (.raw r h) VL.nil
 | junk _=>exact absurd rfl hj
 | agg rs cs A h=>exact⟨A,h⟩
 | tup rs cs A h=>exact VL.cons (.tup rs cs A h) VL.nil
 | fn f rs cs A h D cs' E h'=>exact VL.cons (.fn f rs cs A h D cs' E h') VL.nil
 | sl a cap t xs T vs h1 h2 W U O h6 h7 h8 h9=>exact VL.cons (.sl a cap t xs T vs h1 h2 W U O h6 h7 h8 h9) VL.nil
 | cptr ad x vs h1 h2 W U O=>exact VL.cons (.cptr ad x vs h1 h2 W U O) VL.nil
def Value.flat:Value->Bool
 | .agg _=>false
 | .tuple _=>false
 | _=>true
def V.flat {r:Value}{x:IV}(h:V B L w r x)(hx:x.one=true):Value.flat r=true:=by
 cases h with
 | raw _ _=>cases r<;>first|rfl|simp[IV.one] at hx
 | junk _=>simp[IV.one] at hx
 | agg=>simp[IV.one] at hx
 | tup=>simp[IV.one] at hx
 | fn=>rfl
 | sl=>rfl
 | cptr=>rfl
def lI {x:IV}(hx:x.one=true):x.cells=[x]:=by
 cases x<;>first|rfl|simp[IV.one] at hx
end
inductive KeyK where
 | str
 | int (k:IntKind)
 /-- a struct of a string and an int -/
 | sym
 /-- a struct of a bool and a u8 -/
 | sg
 /-- a struct of an int and a bool -/
 | pl
def plK:List Value->Bool
 | [.int .i64 n,.bool _]=>decide (-9223372036854775808<=n)&&decide (n<=9223372036854775807)
 | _=>false
def sgK:List Value->Bool
 | [.bool _,.int .u8 n]=>decide (0<=n)&&decide (n<=255)
 | _=>false
def symK:List Value->Bool
 | [.string s,.int .i64 n]=>decide (s.size<=281474976710656)&&decide (-9223372036854775808<=n)&&decide (n<=9223372036854775807)
 | _=>false
def fJ:KeyK->Value->Bool
 | .str,.string _=>true
 | .int k,.int A _=>k == A
 | .sym,.agg cs=>symK cs.toList
 | .sg,.agg cs=>sgK cs.toList
 | .pl,.agg cs=>plK cs.toList
 | _,_=>false
inductive IObj where
 | box (cs:List IV)
 | front (n s:Nat)
 | map (k:KeyK) (es:List (Value×IV))
 /-- the record of a range over a function; what its frame reads aL -/
 | loop (r:Loop) (xs:Nat->IV)
 /-- a map that is ranged over: its entries to the letter -/
 | mapx (ents:Array MapEntry) (clock:Nat)
 /-- a range over map m -/
 | iter (m since:Nat) (seen:Array Nat) (c:Nat)
abbrev ISt:=Nat->Option IObj
structure Cx where
 P:Program
 gl:Nat->Option IV
 B:Nat
structure WS where
 w:World
 L:Nat->Nat
 st:ISt
 d:Nat
abbrev Cx.v (C:Cx)(X:WS):Value->IV->Prop:=V C.B X.L X.w
abbrev Cx.vl (C:Cx)(X:WS):List Value->List IV->Prop:=VL C.B X.L X.w
def ObjOk (C:Cx)(X:WS)(b:Nat):IObj->Prop
 | .box cs=>X.L b=0/\∃(c:Array Value) (T:TypeId),X.w.heap[b]?=some (.cells c T (0,0))/\C.vl X c.toList cs
 | .front n s=>∃(c:Array Value) (T:TypeId),X.w.heap[b]?=some (.cells c T (0,0))/\X.L b=n*s/\X.L b<=c.size
 | .map U es=>X.L b=0/\(∀p∈es,fJ U p.1=true)/\(es.map (·.1)).Nodup/\∃(A:Array MapEntry) (D:Nat),X.w.heap[b]?=some (.map A D)/\A.toList.map (·.key)=es.map (·.1) /\
   C.vl X (A.toList.map (·.val)) (es.map (·.2))/\(∀e∈A.toList,e.born<D)/\A.toList.Pairwise (λe W=>e.born<W.born)
 | .loop r O=>X.L b=0/\X.w.heap[b]?=some (.loop r)/\∀t,C.v X (r.tmps.getD t undef) (O t)
 | .mapx A D=>X.L b=0/\X.w.heap[b]?=some (.map A D)
 | .iter m E seen c=>X.L b=0/\X.w.heap[b]?=some (.mapIter (some m) E seen c)
structure Good (C:Cx)(X:WS):Prop where
 ok:∀b o,X.st b=some o->ObjOk C X b o
 gl:∀g x,C.gl g=some x->C.v X (.pointer (some ⟨g,0,none⟩)) (.cptr x)
 B:C.B<=X.w.heap.size
 Lnew:∀b,X.w.heap.size<=b->X.L b=0
 gsh:∀g x,C.gl g=some x->∃T z,shq X.w g=some ((T,x.cells.length),z)
 /-- of contracts that lean on no global of the library's (these rest on contracts that do not tell what is drawn) -/
 dr:(∀g,C.gl g=none)->X.d<=X.w.drawn
structure Ext (X X':WS):Prop where
 os:X'.w.os=X.w.os
 tape:X'.w.tape=X.w.tape
 output:X'.w.output=X.w.output
 size:X.w.heap.size<=X'.w.heap.size
 lmono:∀b,X.L b<=X'.L b
 cells:∀b i,i<X.L b->X'.w.cell? ⟨b,i,none⟩=X.w.cell? ⟨b,i,none⟩
 keep:∀b,b<X.w.heap.size->X.st b=none->X'.w.heap[b]?=X.w.heap[b]?/\X'.L b=X.L b
 dom:∀b,b<X.w.heap.size->X.st b=none->X'.st b=none
 shape:∀b p,shq X.w b=some p->shq X'.w b=some p
 d:X'.d=X.d
def Ext.refl (X:WS):Ext X X:=⟨rfl,rfl,rfl,dz _,λ_=>dz _,λ_ _ _=>rfl,λ_ _ _=>⟨rfl,rfl⟩,λ_ _ h=>h,λ_ _ h=>h,rfl⟩
def Ext.trans {X Y Z:WS}(h:Ext X Y)(k:Ext Y Z):Ext X Z where
 os:=k.os.trans h.os
 tape:=k.tape.trans h.tape
 output:=k.output.trans h.output
 size:=eh h.size k.size
 lmono b:=eh (h.lmono b) (k.lmono b)
 cells b i E:=(k.cells b i (kE E (h.lmono b))).trans (h.cells b i E)
 keep b A D:=by
  obtain⟨h1,h2⟩:=h.keep b A D;obtain⟨U,O⟩:=k.keep b (kE A h.size) (h.dom b A D);exact⟨U.trans h1,O.trans h2⟩
 dom b A D:=k.dom b (kE A h.size) (h.dom b A D)
 shape b p hp:=k.shape b p (h.shape b p hp)
 d:=k.d.trans h.d
def Ext.v {C:Cx}{X Y:WS}(h:Ext X Y){r:Value}{x:IV}(A:C.v X r x):C.v Y r x:=V.mono A h.lmono h.cells h.shape
def Ext.vl {C:Cx}{X Y:WS}(h:Ext X Y){r:List Value}{x:List IV}(A:C.vl X r x):C.vl Y r x:=VL.mono A h.lmono h.cells h.shape
def Good.lt {C:Cx}{X:WS}(h:Good C X){b:Nat}{o:IObj}(E:X.st b=some o):b<X.w.heap.size:=by
 have key:∀o',X.w.heap[b]?=some o'->b<X.w.heap.size:=λo' D=>(gO.1 D).1;have:=h.ok b o E;cases o with
 | box cs=>obtain⟨_,c,T,A,_⟩:=this;exact key _ A
 | front n s=>obtain⟨c,T,A,_⟩:=this;exact key _ A
 | map k es=>obtain⟨_,_,_,e,cl,A,_⟩:=this;exact key _ A
 | loop r O=>exact key _ this.2.1
 | mapx e c=>exact key _ this.2
 | iter m s e c=>exact key _ this.2
def ObjOk.mono {C:Cx}{X Y:WS}{b:Nat}{o:IObj}(h:ObjOk C X b o)(E:Y.w.heap[b]?=X.w.heap[b]?)(D:Y.L b=X.L b)
  (A:∀r x,C.vl X r x->C.vl Y r x):ObjOk C Y b o:=by
 cases o with
 | box cs =>
  obtain⟨h0,c,T,O,hv⟩:=h;exact⟨D.trans h0,c,T,E.trans O,A _ _ hv⟩
 | front n s =>
  obtain⟨c,T,O,h2,W⟩:=h;exact⟨c,T,E.trans O,D.trans h2,by rw[D];exact W⟩
 | map k es =>
  obtain⟨h0,hk,U,e,cl,O,h1,h2,W,h4⟩:=h;exact⟨D.trans h0,hk,U,e,cl,E.trans O,h1,A _ _ h2,W,h4⟩
 | mapx e c=>exact⟨D.trans h.1,E.trans h.2⟩
 | iter m s e c=>exact⟨D.trans h.1,E.trans h.2⟩
 | loop r xs=>exact⟨D.trans h.1,E.trans h.2.1,λt=>by
   have:=A [r.tmps.getD t undef] [xs t] (VL.cons (h.2.2 t) VL.nil);exact this.2 0 _ _ rfl rfl⟩
inductive SV where
 | iv (x:IV)
 | box (cs:List IV)
instance :Coe IV SV:=⟨.iv⟩
abbrev Fr:=Nat->SV
def Fr.put (fr:Fr)(t:Nat)(v:SV):Fr:=λs=>if s=t then v else fr s
def Fr.put_apply (fr:Fr)(t:Nat)(v:SV)(s:Nat):fr.put t v s=if s=t then v else fr s:=(rfl)
inductive Dfd where
 | call (f:Fn) (caps args:List IV)
 | coll (r:Nat)
abbrev tm (ts:Array Value)(t:Nat):Value:=ts.getD t undef
def SlotOk (C:Cx)(X:WS)(n0:Nat)(r:Value):SV->Prop
 | .iv x=>C.v X r x
 | .box cs=>∃(b:Nat) (c:Array Value) (T:TypeId),r=.pointer (some ⟨b,0,none⟩)/\X.w.heap[b]?=some (.cells c T (0,0))/\C.vl X c.toList cs /\
   X.st b=none/\X.L b=0/\n0<=b
structure FrOk (C:Cx)(X:WS)(n0:Nat)(fr:Fr)(ts:Array Value):Prop where
 slot:∀t,SlotOk C X n0 (tm ts t) (fr t)
 inj:∀t t' cs cs',fr t=.box cs->fr t'=.box cs'->tm ts t=tm ts t'->t=t'
def DfdOk (C:Cx)(X:WS)(n0:Nat)(d:Deferred):Dfd->Prop
 | .call f D args=>∃rs A:List Value,d={ target:=.fn f ⟨rs⟩,args:=⟨A⟩ }/\C.vl X rs D/\C.vl X A args
 | .coll r=>d={ target:=.collected r,args:=#[] }/\X.w.heap[r]?=some (.deferred (some []))/\X.st r=none/\n0<=r
inductive DsOk (C:Cx)(X:WS)(n0:Nat):List Deferred->List Dfd->Prop
 | nil:DsOk C X n0 [] []
 | cons {d:Deferred} {e:Dfd} {ds:List Deferred} {es:List Dfd} (h:DfdOk C X n0 d e) (hs:DsOk C X n0 ds es) (hn:∀r,e=.coll r->Dfd.coll r ∉ es):DsOk C X n0 (d::ds) (e::es)
structure Inv (C:Cx)(X0:WS)(N:Nat)(X:WS)(fr:Fr)(ds:List Dfd)(a:Act):Prop where
 good:Good C X
 ext:Ext X0 X
 fr:FrOk C X X0.w.heap.size fr a.tmps
 size:a.tmps.size=N
 ds:DsOk C X X0.w.heap.size a.defers ds
abbrev Ad:=Nat->Option (Nat×Nat)
def Ad.none_:Ad:=λ_=>none
def Ad.keep (d:Nat):Option (Nat×Nat)->Option (Nat×Nat)
 | some (t,off)=>if t=d then none else some (t,off)
 | none=>none
def Ad.put (ad:Ad)(d:Nat)(v:Option (Nat×Nat)):Ad:=λs=>if s=d then v else Ad.keep d (ad s)
def Ad.put_apply (ad:Ad)(d:Nat)(v:Option (Nat×Nat))(s:Nat):ad.put d v s=if s=d then v else Ad.keep d (ad s):=(rfl)
def AdOk (fr:Fr)(A:Array Value)(ad:Ad):Prop :=
 ∀x t off,ad x=some (t,off)->∃cs b,fr t=.box cs/\tm A t=.pointer (some ⟨b,0,none⟩)/\tm A x=.pointer (some ⟨b,off,none⟩)
def AdOk.nil {fr:Fr}{A:Array Value}:AdOk fr A Ad.none_:=λ_ _ _ h=>by cases h
section
variable {C:Cx}{X Y:WS}{n0:Nat}
def SlotOk.mono {r:Value}{s:SV}(h:SlotOk C X n0 r s)(E:∀r x,C.v X r x->C.v Y r x)
  (hb:∀b cs,s=.box cs->r=.pointer (some ⟨b,0,none⟩)->X.st b=none->X.L b=0->b<X.w.heap.size->Y.w.heap[b]?=X.w.heap[b]?/\Y.L b=X.L b/\Y.st b=none) :
  SlotOk C Y n0 r s:=by
 cases s with
 | iv x=>exact E _ _ h
 | box cs =>
  obtain⟨b,c,T,D,O,A,h1,h2,h3⟩:=h;obtain⟨k1,W,U⟩:=hb b cs rfl D h1 h2 (gO.1 O).1;exact⟨b,c,T,D,k1.trans O,⟨A.1,λi r x D hx=>E _ _ (A.2 i r x D hx)⟩,U,W.trans h2,h3⟩
def DfdOk.mono {d:Deferred}{e:Dfd}(h:DfdOk C X n0 d e)(E:∀r x,C.v X r x->C.v Y r x)
  (hb:∀r,X.w.heap[r]?=some (.deferred (some []))->X.st r=none->n0<=r->Y.w.heap[r]?=some (.deferred (some []))/\Y.st r=none):DfdOk C Y n0 d e:=by
 cases e with
 | call f U args =>
  obtain⟨rs,A,hd,h1,h2⟩:=h;exact⟨rs,A,hd,⟨h1.1,λi r x D hx=>E _ _ (h1.2 i r x D hx)⟩,⟨h2.1,λi r x D hx=>E _ _ (h2.2 i r x D hx)⟩⟩
 | coll r =>
  obtain⟨hd,h1,h2,O⟩:=h;obtain⟨k1,W⟩:=hb r h1 h2 O;exact⟨hd,k1,W,O⟩
def DsOk.mono {ds:List Deferred}{es:List Dfd}(h:DsOk C X n0 ds es)(D:∀r x,C.v X r x->C.v Y r x)
  (O:∀r,X.w.heap[r]?=some (.deferred (some []))->X.st r=none->n0<=r->Y.w.heap[r]?=some (.deferred (some []))/\Y.st r=none):DsOk C Y n0 ds es:=by
 induction h with
 | nil=>exact .nil
 | cons h _ E A=>exact .cons (h.mono D O) A E
def DsOk.lt {C:Cx}{X:WS}{n0:Nat}{ds:List Deferred}{es:List Dfd}(h:DsOk C X n0 ds es){r:Nat}(A:Dfd.coll r∈es):r<X.w.heap.size:=by
 induction h with
 | nil=>cases A
 | cons h _ E D =>
  rcases dC.1 A with rfl|A
  ·exact (gO.1 h.2.1).1
  ·exact D A
def FrOk.ext {fr:Fr}{E:Array Value}(h:FrOk C X n0 fr E)(A:Ext X Y):FrOk C Y n0 fr E :=
 ⟨λt=>(h.slot t).mono (λ_ _=>A.v) (λb _ _ _ h1 _ D=>⟨(A.keep b D h1).1,(A.keep b D h1).2,A.dom b D h1⟩),h.inj⟩
def DsOk.ext {ds:List Deferred}{es:List Dfd}(h:DsOk C X n0 ds es)(A:Ext X Y):DsOk C Y n0 ds es :=
 h.mono (λ_ _=>A.v) λr h1 h2 _ =>
  have D:r<X.w.heap.size:=(gO.1 h1).1
  ⟨(A.keep r D h2).1.trans h1,A.dom r D h2⟩
def Inv.ext' {X0:WS}{N:Nat}{fr:Fr}{ds:List Dfd}{a:Act}(h:Inv C X0 N X fr ds a)(A:Ext X Y)(D:Good C Y):Inv C X0 N Y fr ds a :=
 ⟨D,h.ext.trans A,h.fr.ext A,h.size,h.ds.ext A⟩
def kX (A:Array Value)(d:Nat)(v:Value)(t:Nat):tm (A.setIfInBounds d v) t=if d=t/\d<A.size then v else tm A t:=by
 unfold tm;simp only[gx,Array.getElem?_setIfInBounds];by_cases h:d=t
 ·subst h;by_cases hd:d<A.size
  ·simp[hd]
  ·simp[hd]
 ·simp[h]
def FrOk.put {fr:Fr}{U:Array Value}(h:FrOk C X n0 fr U){d:Nat}(hd:d<U.size){v:Value}{x:IV}(hv:C.v X v x) :
  FrOk C X n0 (fr.put d (.iv x)) (U.setIfInBounds d v):=by
 refine⟨λt=>?_,λt W cs cs' E A he=>?_⟩
 ·rw[kX,Fr.put_apply];by_cases D:t=d
  ·subst D;rw[b_ rfl,b_ ⟨rfl,hd⟩];exact hv
  ·rw[a_ D,a_ (λO=>D O.1.symm)];exact h.slot t
 ·rw[Fr.put_apply] at E A;by_cases h1:t=d
  ·rw[b_ h1] at E;cases E
  ·by_cases h2:W=d
   ·rw[b_ h2] at A;cases A
   ·rw[a_ h1] at E;rw[a_ h2] at A;rw[kX,kX,a_ (λO=>h1 O.1.symm),a_ (λO=>h2 O.1.symm)] at he;exact h.inj t W cs cs' E A he
def oE {d:Nat}{o:Option (Nat×Nat)}{t off:Nat}(h:Ad.keep d o=some (t,off)):o=some (t,off)/\t≠d:=by
 cases o with
 | none=>cases h
 | some p =>
  obtain⟨E,D⟩:=p;simp only[Ad.keep] at h;split at h
  ·cases h
  ·rename_i A;cases h;exact⟨rfl,A⟩
def AdOk.put {fr:Fr}{E:Array Value}{ad:Ad}(h:AdOk fr E ad)(d:Nat)(v:Value)(s:SV):AdOk (fr.put d s) (E.setIfInBounds d v) (ad.put d none):=by
 intro x t off A;rw[Ad.put_apply] at A;split at A
 ·cases A
 ·rename_i hx;obtain⟨A,O⟩:=oE A;obtain⟨cs,b,h1,h2,U⟩:=h x t off A;refine⟨cs,b,?_,?_,?_⟩
  ·rw[Fr.put_apply,a_ O];exact h1
  ·rw[kX,a_ (λD=>O D.1.symm)];exact h2
  ·rw[kX,a_ (λD=>hx D.1.symm)];exact U
def AdOk.adr {fr:Fr}{W:Array Value}{ad:Ad}(h:AdOk fr W ad){d t off b:Nat}{cs:List IV}(hd:d<W.size)(U:d≠t)(ht:fr t=.box cs)(hb:tm W t=.pointer (some ⟨b,0,none⟩))(s:SV) :
  AdOk (fr.put d s) (W.setIfInBounds d (.pointer (some ⟨b,off,none⟩))) (ad.put d (some (t,off))):=by
 intro x t' E D;rw[Ad.put_apply] at D;split at D
 ·rename_i hx;cases D;refine⟨cs,b,?_,?_,?_⟩
  ·rw[Fr.put_apply,a_ (λA=>U A.symm)];exact ht
  ·rw[kX,a_ (λA=>U A.1)];exact hb
  ·rw[kX,b_ ⟨hx.symm,hd⟩]
 ·rename_i hx;obtain⟨D,O⟩:=oE D;obtain⟨cs',b',h1,h2,h3⟩:=h x t' E D;refine⟨cs',b',?_,?_,?_⟩
  ·rw[Fr.put_apply,a_ O];exact h1
  ·rw[kX,a_ (λA=>O A.1.symm)];exact h2
  ·rw[kX,a_ (λA=>hx A.1.symm)];exact h3
end
def WS.new (X:WS)(o:Obj)(n:Nat)(so:Option IObj):WS :=
 { w:=X.w.alloc o,L:=λb=>if b=X.w.heap.size then n else X.L b,st:=λb=>if b=X.w.heap.size then so else X.st b,d:=X.d }
section
variable {C:Cx}{X:WS}
def qE (w:World)(o:Obj){k:Nat}(h:k<w.heap.size):(w.alloc o).heap[k]?=w.heap[k]?:=by
 show (w.heap.push o)[k]?=_;rw[Array.getElem?_push,a_ (by omega)]
def ja (w:World)(o:Obj):(w.alloc o).heap[w.heap.size]?=some o:=by
 show (w.heap.push o)[w.heap.size]?=_;simp
def qF {w w':World}{b:Nat}(h:w'.heap[b]?=w.heap[b]?)(i:Nat):w'.cell? ⟨b,i,none⟩=w.cell? ⟨b,i,none⟩:=by
 simp only[World.cell?,h]
def qG {w w':World}{b:Nat}(h:w'.heap[b]?=w.heap[b]?):shq w' b=shq w b:=by
 simp only[shq,h]
def zO {w:World}{b:Nat}{p:(TypeId×Nat)×Bool}(h:shq w b=some p):b<w.heap.size:=by
 simp only[shq] at h;cases A:w.heap[b]? with
 | none=>simp[A] at h
 | some o=>exact (gO.1 A).1
def Good.new_ext (h:Good C X)(o:Obj)(n:Nat)(so:Option IObj):Ext X (X.new o n so) where
 os:=rfl
 tape:=rfl
 output:=rfl
 size:=by simp[WS.new]
 lmono b:=by
  simp only[WS.new];split
  ·rename_i A;rw[h.Lnew b (by omega)];exact fQ _
  ·exact dz _
 cells b i U:=by
  have A:b<X.w.heap.size:=by
   rcases jT b X.w.heap.size with D|E
   ·exact D
   ·rw[h.Lnew b E] at U;omega
  exact qF (qE _ _ A) i
 keep b A _:=⟨qE _ _ A,by simp only[WS.new];rw[a_ (by omega)]⟩
 dom b A O:=by simp only[WS.new];rw[a_ (by omega)];exact O
 shape b p hp:=(qG (qE _ _ (zO hp))).trans hp
 d:=rfl
def Good.new (h:Good C X)(o:Obj)(n:Nat)(so:Option IObj)(O:∀i,so=some i->ObjOk C (X.new o n so) X.w.heap.size i):Good C (X.new o n so) where
 ok b i E:=by
  by_cases A:b=X.w.heap.size
  ·subst A;simp only[WS.new,dB] at E;exact O i E
  ·have D:X.st b=some i:=by simpa only[WS.new,a_ A] using E
   have U:=h.lt D;exact (h.ok b i D).mono (qE _ _ U) (by simp only[WS.new];rw[a_ A]) (λ_ _ hv=>(h.new_ext o n so).vl hv)
 gl g x W:=(h.new_ext o n so).v (h.gl g x W)
 gsh g x W:=by obtain⟨T,z,hT⟩:=h.gsh g x W;exact⟨T,z,(h.new_ext o n so).shape _ _ hT⟩
 B:=by simp only[WS.new,World.size_alloc];exact Nat.le_succ_of_le h.B
 Lnew b E:=by
  simp only[WS.new,World.size_alloc] at E ⊢;rw[a_ (by omega)];exact h.Lnew b (by omega)
 dr:=h.dr
def Inv.new {X0:WS}{N:Nat}{fr:Fr}{ds:List Dfd}{a:Act}(h:Inv C X0 N X fr ds a)(o:Obj)(n:Nat)(so:Option IObj)
  (A:∀i,so=some i->ObjOk C (X.new o n so) X.w.heap.size i):Inv C X0 N (X.new o n so) fr ds a :=
 h.ext' (h.good.new_ext o n so) (h.good.new o n so A)
def WS.drew (X:WS):WS:={ X with w:=X.w.drew }
def Good.drew (h:Good C X):Ext X X.drew/\Good C X.drew:=by
 have A:Ext X X.drew:=⟨rfl,rfl,rfl,dz _,λ_=>dz _,λ_ _ _=>rfl,λ_ _ _=>⟨rfl,rfl⟩,λ_ _ h=>h,λ_ _ h=>h,rfl⟩
 refine⟨A,⟨λb o O=>(h.ok b o O).mono rfl rfl (λ_ _ D=>A.vl D),λg x E=>A.v (h.gl g x E),h.B,h.Lnew,h.gsh,λhd=>Nat.le_succ_of_le (h.dr hd)⟩⟩
def WS.row (X:WS)(g:Nat)(cs':Array Value)(n:Nat)(so:Option IObj):WS :=
 { w:=X.w.setRow g cs',L:=λb=>if b=g then n else X.L b,st:=λb=>if b=g then so else X.st b,d:=X.d }
def qH {w:World}{g:Nat}{c cs':Array Value}{T:TypeId}(D:w.heap[g]?=some (.cells c T (0,0)))(A:cs'.size=c.size)(b:Nat):shq (w.setRow g cs') b=shq w b:=by
 by_cases E:b=g
 ·subst E;simp only[shq,fU w b c cs' T (0,0) D,D,A]
 ·exact qG (gn w g b cs' E)
def kY {g:Nat}{c cs':Array Value}{T:TypeId}{n:Nat}{so:Option IObj}(O:X.w.heap[g]?=some (.cells c T (0,0)))(E:cs'.size=c.size)(W:X.L g<=n)
  (A:∀i,i<X.L g->cs'[i]?=c[i]?) {r:Value} {x:IV} (U:C.v X r x):C.v (X.row g cs' n so) r x:=by
 refine V.mono U (λb=>?_) (λb i hi=>?_) (λb p hp=>?_)
 ·simp only[WS.row];split
  ·rename_i D;subst D;exact W
  ·exact dz _
 ·by_cases D:b=g
  ·subst D;have h1:=fU X.w b c cs' T (0,0) O;simp only[WS.row,World.cell?,h1,O,ju,Bool.false_eq_true,dJ];exact A i hi
  ·exact qF (gn X.w g b cs' D) i
 ·exact (qH O E b).trans hp
def Ext.row {X0:WS}{g:Nat}{c cs':Array Value}{T:TypeId}{n:Nat}{so:Option IObj}(A:Ext X0 X)(hh:X.w.heap[g]?=some (.cells c T (0,0)))(aa:cs'.size=c.size)(hn:X.L g<=n)
  (U:∀i,i<X.L g->cs'[i]?=c[i]?) (E:X0.w.heap.size<=g\/X0.st g≠none):Ext X0 (X.row g cs' n so) where
 os:=A.os
 tape:=A.tape
 output:=A.output
 size:=by simp only[WS.row,setRow_size];exact A.size
 lmono b:=by
  simp only[WS.row];split
  ·rename_i O;subst O;exact eh (A.lmono _) hn
  ·exact A.lmono b
 cells b i hi:=by
  rw[<- A.cells b i hi];by_cases O:b=g
  ·subst O;have h1:=fU X.w b c cs' T (0,0) hh;simp only[WS.row,World.cell?,h1,hh,ju,Bool.false_eq_true,dJ];exact U i (kE hi (A.lmono b))
  ·exact qF (gn X.w g b cs' O) i
 keep b O W:=by
  have D:b≠g:=by
   rintro rfl;rcases E with h|h
   ·omega
   ·exact h W
  simp only[WS.row];rw[a_ D,gn _ _ _ _ D];exact A.keep b O W
 dom b O W:=by
  have D:b≠g:=by
   rintro rfl;rcases E with h|h
   ·omega
   ·exact h W
  simp only[WS.row];rw[a_ D];exact A.dom b O W
 shape b p hp:=(qH hh aa b).trans (A.shape b p hp)
 d:=A.d
def Good.row {g:Nat}{c cs':Array Value}{T:TypeId}{n:Nat}{so:Option IObj}(h:Good C X)(U:X.w.heap[g]?=some (.cells c T (0,0)))(E:cs'.size=c.size)(hn:X.L g<=n)
  (A:∀i,i<X.L g->cs'[i]?=c[i]?) (aa:∀i,so=some i->ObjOk C (X.row g cs' n so) g i):Good C (X.row g cs' n so) where
 ok b i O:=by
  by_cases D:b=g
  ·subst D;simp only[WS.row,dB] at O;exact aa i O
  ·have ab:X.st b=some i:=by simpa only[WS.row,a_ D] using O
   exact (h.ok b i ab).mono (gn X.w g b cs' D) (by simp only[WS.row];rw[a_ D])
    (λ_ _ hv=>⟨hv.1,λi r x hr hx=>kY U E hn A (hv.2 i r x hr hx)⟩)
 gl g' x W:=kY U E hn A (h.gl g' x W)
 gsh g' x W:=by obtain⟨T',z,hT⟩:=h.gsh g' x W;exact⟨T',z,(qH U E g').trans hT⟩
 B:=by simp only[WS.row,setRow_size];exact h.B
 Lnew b O:=by
  simp only[WS.row,setRow_size] at O ⊢;have W:=(gO.1 U).1;rw[a_ (by omega)];exact h.Lnew b O
 dr hd:=by simp only[WS.row,setRow_drawn];exact h.dr hd
def Inv.row {X0:WS}{N:Nat}{fr:Fr}{ds:List Dfd}{a:Act}{g:Nat}{c cs':Array Value}{T:TypeId}{n:Nat}{so:Option IObj}(h:Inv C X0 N X fr ds a)
  (hh:X.w.heap[g]?=some (.cells c T (0,0))) (E:cs'.size=c.size) (W:X.L g<=n) (A:∀i,i<X.L g->cs'[i]?=c[i]?) (O:X.st g≠none)
  (ab:∀i,so=some i->ObjOk C (X.row g cs' n so) g i):Inv C X0 N (X.row g cs' n so) fr ds a:=by
 have U:X0.w.heap.size<=g\/X0.st g≠none:=by
  rcases jT g X0.w.heap.size with ac|ae
  ·exact .inr λh0=>O (h.ext.dom g ac h0)
  ·exact .inl ae
 refine⟨h.good.row hh E W A ab,h.ext.row hh E W A U,⟨λt=>(h.fr.slot t).mono (λ_ _=>kY hh E W A) ?_,h.fr.inj⟩,h.size,h.ds.mono (λ_ _=>kY hh E W A) ?_⟩
 ·intro b cs _ _ hb _ _;have D:b≠g:=by rintro rfl;exact O hb
  exact⟨gn X.w g b cs' D,by simp only[WS.row];rw[a_ D],by simp only[WS.row];rw[a_ D];exact hb⟩
 ·intro r h1 h2 _;have D:r≠g:=by rintro rfl;exact O h2
  exact⟨(gn X.w g r cs' D).trans h1,by simp only[WS.row];rw[a_ D];exact h2⟩
def Inv.own {X0:WS}{N:Nat}{fr:Fr}{ds:List Dfd}{a:Act}{t g:Nat}{cs new:List IV}{c cs':Array Value}{T:TypeId}(h:Inv C X0 N X fr ds a)
  (ht:fr t=.box cs) (hr:tm a.tmps t=.pointer (some ⟨g,0,none⟩)) (hh:X.w.heap[g]?=some (.cells c T (0,0))) (U:cs'.size=c.size)
  (W:C.vl X cs'.toList new):Inv C X0 N { X with w:=X.w.setRow g cs' } (fr.put t (.box new)) ds a:=by
 have hs:=h.fr.slot t;rw[ht] at hs;obtain⟨b,c1,T1,E,av,au,ak,hL,ag⟩:=hs;rw[hr] at E;obtain rfl:g=b:=by injection E with E;injection E with E;injection E
 have ac:X.row g cs' 0 none={ X with w:=X.w.setRow g cs' }:=by
  unfold WS.row;congr 1
  ·funext b;split
   ·rename_i hb;rw[hb,hL]
   ·rfl
  ·funext b;split
   ·rename_i hb;rw[hb,ak]
   ·rfl
 have A:∀i,i<X.L g->cs'[i]?=c[i]?:=λi hi=>by rw[hL] at hi;omega
 have hn:X.L g<=0:=by omega
 rw[<- ac];refine⟨h.good.row hh U hn A (λi hi=>by cases hi),h.ext.row hh U hn A (.inl ag),⟨λs=>?_,λs s' ax ai h1 h2 he=>?_⟩,h.size,h.ds.mono (λ_ _=>kY hh U hn A) ?_⟩
 ·rw[Fr.put_apply];by_cases D:s=t
  ·subst D;rw[b_ rfl];refine⟨g,cs',T,hr,fU X.w g c cs' T (0,0) hh,⟨W.1,λi r x hr hx=>kY hh U hn A (W.2 i r x hr hx)⟩,?_,?_,ag⟩
   ·simp[WS.row]
   ·simp[WS.row]
  ·rw[a_ D];refine (h.fr.slot s).mono (λ_ _=>kY hh U hn A) ?_;intro b ai hs2 am hb _ _;have O:b≠g:=by
    rintro rfl;exact D (h.fr.inj s t ai cs hs2 ht (am.trans hr.symm))
   exact⟨gn X.w g b cs' O,by simp only[WS.row];rw[a_ O],by simp only[WS.row];rw[a_ O];exact hb⟩
 ·have hx:∀s cs,(fr.put t (.box new)) s=.box cs->∃cs',fr s=.box cs':=λs cs hs=>by
   rw[Fr.put_apply] at hs;by_cases D:s=t
   ·subst D;exact⟨_,ht⟩
   ·rw[a_ D] at hs;exact⟨_,hs⟩
  obtain⟨d1,aq⟩:=hx _ _ h1;obtain⟨d2,ao⟩:=hx _ _ h2;exact h.fr.inj s s' d1 d2 aq ao he
 ·intro r h1 h2 _;have O:r≠g:=by rintro rfl;rw[hh] at h1;cases h1
  exact⟨(gn X.w g r cs' O).trans h1,by simp only[WS.row];rw[a_ O];exact h2⟩
def AdOk.own {fr:Fr}{E:Array Value}{ad:Ad}(h:AdOk fr E ad){t:Nat}(new:List IV):AdOk (fr.put t (.box new)) E ad:=by
 intro x s off U;obtain⟨D,b,h1,h2,O⟩:=h x s off U;by_cases A:s=t
 ·exact⟨new,b,by rw[Fr.put_apply,b_ A],h2,O⟩
 ·exact⟨D,b,by rw[Fr.put_apply,a_ A];exact h1,h2,O⟩
def Inv.box {X0:WS}{N:Nat}{fr:Fr}{ds:List Dfd}{a:Act}(h:Inv C X0 N X fr ds a){d:Nat}(hd:d<N)(c:Array Value)(T:TypeId){cs:List IV}(hv:C.vl X c.toList cs) :
  Inv C X0 N { X with w:=X.w.alloc (.cells c T) } (fr.put d (.box cs)) ds { a with tmps:=a.tmps.setIfInBounds d (.pointer (some ⟨X.w.heap.size,0,none⟩)) }:=by
 have D:X.st X.w.heap.size=none:=by
  cases hs:X.st X.w.heap.size with
  | none=>rfl
  | some o=>have:=h.good.lt hs;omega
 have ae:X.L X.w.heap.size=0:=h.good.Lnew _ (dz _);have hX:X.new (.cells c T) 0 none={ X with w:=X.w.alloc (.cells c T) }:=by
  unfold WS.new;congr 1
  ·funext b;split
   ·rename_i hb;rw[hb,ae]
   ·rfl
  ·funext b;split
   ·rename_i hb;rw[hb,D]
   ·rfl
 have he:=h.good.new_ext (.cells c T) 0 none;have h':=h.new (.cells c T) 0 none (λi hi=>by cases hi);rw[hX] at he h';have U:d<a.tmps.size:=by rw[h.size];exact hd
 refine⟨h'.good,h'.ext,⟨λt=>?_,λt t' ak aj h1 h2 A=>?_⟩,by simp[h.size],h'.ds⟩
 ·rw[kX,Fr.put_apply];by_cases aa:t=d
  ·subst aa;rw[b_ rfl,b_ ⟨rfl,U⟩];exact⟨X.w.heap.size,c,T,rfl,ja _ _,he.vl hv,D,ae,h.ext.size⟩
  ·rw[a_ aa,a_ (λE=>aa E.1.symm)];exact h'.fr.slot t
 ·rw[Fr.put_apply] at h1 h2;rw[kX,kX] at A;have O:∀s cs',fr s=.box cs'->tm a.tmps s≠.pointer (some ⟨X.w.heap.size,0,none⟩):=λs cs' hs hp=>by
   have:=h.fr.slot s;rw[hs] at this;obtain⟨b,c',T',W,E,_⟩:=this;rw[hp] at W;injection W with W;injection W with W;injection W with W;have:=(gO.1 E).1;omega
  by_cases e1:t=d
  ·by_cases e2:t'=d
   ·rw[e1,e2]
   ·rw[a_ e2] at h2;rw[b_ ⟨e1.symm,U⟩,a_ (λE=>e2 E.1.symm)] at A;exact absurd A.symm (O _ _ h2)
  ·by_cases e2:t'=d
   ·rw[a_ e1] at h1;rw[a_ (λE=>e1 E.1.symm),b_ ⟨e2.symm,U⟩] at A;exact absurd A (O _ _ h1)
   ·rw[a_ e1] at h1;rw[a_ e2] at h2;rw[a_ (λE=>e1 E.1.symm),a_ (λE=>e2 E.1.symm)] at A;exact h.fr.inj t t' ak aj h1 h2 A
def Inv.put {X0:WS}{N:Nat}{fr:Fr}{ds:List Dfd}{a:Act}(h:Inv C X0 N X fr ds a){d:Nat}(hd:d<N){v:Value}{x:IV}(A:C.v X v x) :
  Inv C X0 N X (fr.put d (.iv x)) ds { a with tmps:=a.tmps.setIfInBounds d v } :=
 ⟨h.good,h.ext,h.fr.put (by rw[h.size];exact hd) A,by simp[h.size],h.ds⟩
end
def Hold (_:Bool)(p:Prop):Prop:=p
def cU {α:Type}(o:Option α)(f:α->Prop):Prop:=match o with|some x=>f x|none=>False
@[congr] def Q3 {α:Type}{o o':Option α}(f:α->Prop)(h:o=o'):cU o f=cU o' f:=by rw[h]
@[go_sem] def oF {α:Type}(x:α)(f:α->Prop):cU (some x) f=f x:=(rfl)
def yQ4 {α:Type}{o:Option α}{f:α->Prop}:cU o f↔∃x,o=some x/\f x:=by
 cases o<;>simp[cU]
def chk (c q:Prop):Prop:=c/\q
@[congr] def Q4 {c A:Prop}(q:Prop)(h:c=A):chk c q=chk A q:=by rw[h]
@[go_sem] def Q5 (q:Prop):chk True q=q:=by simp[chk]
def giv (c q:Prop):Prop:=c->q
@[congr] def Q6 {c A:Prop}(q:Prop)(h:c=A):giv c q=giv A q:=by rw[h]
inductive Lock.{u}{α:Sort u}(a:α):Type where
 | mk
def jG (b:Bool)(p q:Prop)(_:Lock p)(_:Lock q):Prop:=(b=true->p)/\(b=false->q)
@[congr] def Q7 {b A:Bool}(p q:Prop)(k:Lock p)(l:Lock q)(h:b=A):jG b p q k l=jG A p q k l:=by rw[h]
@[go_sem] def HF (p q:Prop)(k:Lock p)(l:Lock q):jG true p q k l=p:=by simp[jG]
@[go_sem] def HG (p q:Prop)(k:Lock p)(l:Lock q):jG false p q k l=q:=by simp[jG]
def aggD:TypeDesc->Bool
 | .struct _=>true
 | .array _ _=>true
 | _=>false
def tyI (P:Program)(T:TypeId):Option (Bool×Nat) :=
 match P.underlying T,P.info? T with
 | some d,some i=>some (aggD d,i.size)
 | _,_=>none
def fldI (P:Program)(T:TypeId)(i:Nat):Option (Nat×Bool×Nat) :=
 match P.underlying T with
 | some (.struct A)=>match A[i]? with
  | some f=>match tyI P f.type with
   | some (a,n)=>if 0<n then some (f.offset,a,n) else none
   | none=>none
  | none=>none
 | _=>none
def arrI (P:Program)(T:TypeId):Option (Nat×Bool×Nat) :=
 match P.underlying T with
 | some (.array n e)=>(tyI P e).map λ(a,s)=>(n,a,s)
 | _=>none
def slI (P:Program)(T:TypeId):Option (TypeId×Bool×Nat×Nat) :=
 match P.underlying T with
 | some (.slice e)=>match tyI P e,P.info? e with
  | some (a,s),some i=>if i.zero.map (λz=>z.cells.size)=some s then some (e,a,s,i.bytes) else none
  | _,_=>none
 | _=>none
def nB:Value->Option IV
 | .agg _=>none
 | .tuple _=>none
 | .slice none 0 0=>some (.sl ⟨true,.nil,0⟩ [])
 | .slice _ _ _=>none
 | .string s=>if s.size<=281474976710656 then some (.raw (.string s)) else none
 | .func f ⟨[]⟩ ⟨[]⟩=>some (.fn f [] [])
 | .func _ _ _=>none
 | v=>some (.raw v)
def allI {α β:Type}(f:α->Option β):List α->Option (List β)
 | []=>some []
 | a::l=>match f a,allI f l with
  | some b,some A=>some (b::A)
  | _,_=>none
def qI:Value->Option IV
 | .agg cs=>(allI nB cs.toList).map .agg
 | v=>nB v
def eY (P:Program)(T:TypeId):Option IV:=((P.info? T).bind (·.zero)).bind qI
def intK (P:Program)(T:TypeId):Option IntKind:=match P.underlying T with|some (.int k)=>some k|_=>none
def symT (P:Program)(k:TypeId):List Field->Bool
 | [f,g]=>P.keyType k&&P.keyTypeAt 2 k&&P.tiled 2 k&&f.name != "_" && g.name != "_" && f.offset == 0&&g.offset == 1&&P.cellsOf k == 2&&P.cellsOf f.type == 1&&P.cellsOf g.type == 1&&decide (0<P.types.size) &&
   (match P.underlying f.type with|some .string=>true|_=>false)&&(match P.underlying g.type with|some (.int .i64)=>true|_=>false)
 | _=>false
def sgT (P:Program)(k:TypeId):List Field->Bool
 | [f,g]=>P.keyType k&&P.keyTypeAt 2 k&&P.tiled 2 k&&f.name != "_" && g.name != "_" && f.offset == 0&&g.offset == 1&&P.cellsOf k == 2&&P.cellsOf f.type == 1&&P.cellsOf g.type == 1&&decide (0<P.types.size) &&
   (match P.underlying f.type with|some .bool=>true|_=>false)&&(match P.underlying g.type with|some (.int .u8)=>true|_=>false)
 | _=>false
def plT (P:Program)(k:TypeId):List Field->Bool
 | [f,g]=>P.keyType k&&P.keyTypeAt 2 k&&P.tiled 2 k&&f.name != "_" && g.name != "_" && f.offset == 0&&g.offset == 1&&P.cellsOf k == 2&&P.cellsOf f.type == 1&&P.cellsOf g.type == 1&&decide (0<P.types.size) &&
   (match P.underlying f.type with|some (.int .i64)=>true|_=>false)&&(match P.underlying g.type with|some .bool=>true|_=>false)
 | _=>false
def mapI (P:Program)(T:TypeId):Option (KeyK×IV) :=
 match P.underlying T with
 | some (.map k e)=>match P.underlying k,eY P e with
  | some .string,some z=>some (.str,z)
  | some (.int i),some z=>some (.int i,z)
  | some (.struct A),some z=>if symT P k A.toList=true then some (.sym,z) else if sgT P k A.toList=true then some (.sg,z) else if plT P k A.toList=true then some (.pl,z) else none
  | _,_=>none
 | _=>none
def entI (P:Program)(f:FuncId):Bool :=
 match P.funcs[f]? with
 | some fn=>fn.name != "runtime.NumGoroutine" && fn.body.isSome
 | none=>false
def ivOf:SV->Option IV
 | .iv .junk=>none
 | .iv x=>some x
 | .box _=>none
@[go_sem] def Q8 (v:Value):ivOf (.iv (.raw v))=some (.raw v):=(rfl)
@[go_sem] def Q9 (v:List IV):ivOf (.iv (.agg v))=some (.agg v):=(rfl)
@[go_sem] def Q_ (v:List IV):ivOf (.iv (.tup v))=some (.tup v):=(rfl)
@[go_sem] def Ra (f:Fn)(a b:List IV):ivOf (.iv (.fn f a b))=some (.fn f a b):=(rfl)
@[go_sem] def Rb (t:Tag)(v:List IV):ivOf (.iv (.sl t v))=some (.sl t v):=(rfl)
@[go_sem] def Rc (v:IV):ivOf (.iv (.cptr v))=some (.cptr v):=(rfl)
def IV.def_ (x:IV):Prop:=x≠.junk
def qJ {x:IV}(h:x.def_):ivOf (.iv x)=some x:=by cases x<;>first|rfl|exact absurd rfl h
attribute [go_sem ↓] Fr.put_apply
def evV (gl:Nat->Option IV)(fr:Fr):Operand->Option IV
 | .tmp t=>ivOf (fr t)
 | .const v=>qI v
 | .global g=>(gl g).map .cptr
 | .func f=>some (.fn (.func f) [] [])
@[go_sem ↓] def px (gl:Nat->Option IV)(fr:Fr)(t:Nat):evV gl fr (.tmp t)=ivOf (fr t):=(rfl)
@[go_sem ↓] def Re (gl:Nat->Option IV)(fr:Fr)(k:IntKind)(n:Int):evV gl fr (.const (.int k n))=some (.raw (.int k n)):=(rfl)
@[go_sem ↓] def Rf (gl:Nat->Option IV)(fr:Fr)(b:Bool):evV gl fr (.const (.bool b))=some (.raw (.bool b)):=(rfl)
@[go_sem ↓] def Rg (gl:Nat->Option IV)(fr:Fr):evV gl fr (.const (.slice none 0 0))=some (.sl ⟨true,.nil,0⟩ []):=(rfl)
@[go_sem ↓] def Rh (gl:Nat->Option IV)(fr:Fr)(s:ByteArray):evV gl fr (.const (.string s))=if s.size<=281474976710656 then some (.raw (.string s)) else none:=(rfl)
@[go_sem ↓] def Ri (gl:Nat->Option IV)(fr:Fr)(m:Option Nat):evV gl fr (.const (.map m))=some (.raw (.map m)):=(rfl)
@[go_sem ↓] def Rj (gl:Nat->Option IV)(fr:Fr):evV gl fr (.const .nilFunc)=some (.raw .nilFunc):=(rfl)
@[go_sem ↓] def Rl (gl:Nat->Option IV)(fr:Fr)(cs:Array Value):evV gl fr (.const (.agg cs))=(allI nB cs.toList).map .agg:=(rfl)
@[go_sem ↓] def Rm (gl:Nat->Option IV)(fr:Fr)(f:FuncId):evV gl fr (.func f)=some (.fn (.func f) [] []):=(rfl)
def evL (gl:Nat->Option IV)(fr:Fr)(l:List Operand):Option (List IV):=allI (evV gl fr) l
@[go_sem ↓] def Rn (gl:Nat->Option IV)(fr:Fr):evL gl fr []=some []:=(rfl)
def uT {α:Type}:Option α->Option (List α)->Option (List α)
 | some a,some l=>some (a::l)
 | _,_=>none
@[go_sem] def HH {α:Type}(a:α)(l:List α):uT (some a) (some l)=some (a::l):=(rfl)
@[go_sem ↓] def zP (gl:Nat->Option IV)(fr:Fr)(x:Operand)(l:List Operand):evL gl fr (x::l)=uT (evV gl fr x) (evL gl fr l):=by
 unfold evL;rw[allI];cases evV gl fr x<;>cases allI (evV gl fr) l<;>rfl
inductive Pl where
 | box (t off:Nat)
 | ptr (b off:Nat)
 | cp (x:IV)
def plOf (t:Nat):SV->Option Pl
 | .box _=>some (.box t 0)
 | .iv (.raw (.pointer (some ⟨b,off,none⟩)))=>some (.ptr b off)
 | .iv (.cptr x)=>some (.cp x)
 | _=>none
@[go_sem] def Ro (t:Nat)(cs:List IV):plOf t (.box cs)=some (.box t 0):=(rfl)
@[go_sem] def Rp (t b off:Nat):plOf t (.iv (.raw (.pointer (some ⟨b,off,none⟩))))=some (.ptr b off):=(rfl)
@[go_sem] def Rq (t:Nat)(x:IV):plOf t (.iv (.cptr x))=some (.cp x):=(rfl)
def plAd (t:Nat)(fr:Fr):Option (Nat×Nat)->Option Pl
 | some (s,off)=>some (.box s off)
 | none=>plOf t (fr t)
@[go_sem] def Rr (t:Nat)(fr:Fr)(s off:Nat):plAd t fr (some (s,off))=some (.box s off):=(rfl)
@[go_sem] def Rs (t:Nat)(fr:Fr):plAd t fr none=plOf t (fr t):=(rfl)
attribute [go_sem ↓] Ad.put_apply
@[go_sem] def HI (t:Nat):Ad.none_ t=none:=(rfl)
@[go_sem] def HJ (d:Nat):Ad.keep d none=none:=(rfl)
def evA (gl:Nat->Option IV)(ad:Ad)(fr:Fr):Operand->Option Pl
 | .tmp t=>plAd t fr (ad t)
 | .global g=>(gl g).map .cp
 | _=>none
@[go_sem ↓] def Ru (gl:Nat->Option IV)(ad:Ad)(fr:Fr)(t:Nat):evA gl ad fr (.tmp t)=plAd t fr (ad t):=(rfl)
@[go_sem ↓] def Rv (gl:Nat->Option IV)(ad:Ad)(fr:Fr)(g:Nat):evA gl ad fr (.global g)=(gl g).map .cp:=(rfl)
def gB (ag:Bool)(n:Nat)(cs:List IV)(off:Nat):Option IV :=
 if ag then (if off+n<=cs.length then some (.agg ((cs.drop off).take n)) else none) else cs[off]?
@[go_sem] def Rx (n:Nat)(cs:List IV)(off:Nat):gB true n cs off=if off+n<=cs.length then some (.agg ((cs.drop off).take n)) else none:=(rfl)
@[go_sem] def Ry (n:Nat)(cs:List IV)(off:Nat):gB false n cs off=cs[off]?:=(rfl)
def eV (cs:List IV)(off:Nat)(l:List IV):List IV:=cs.take off++l++cs.drop (off+l.length)
def fits (ag:Bool)(n:Nat):IV->Bool
 | .agg cs=>ag&&cs.length == n&&cs.all IV.one
 | x=>!ag&&x.one&&n == 1
@[go_sem] def zQ (n:Nat)(cs:List IV):fits true n (.agg cs)=(cs.length == n&&cs.all IV.one):=by simp[fits]
@[go_sem] def Rz (n:Nat)(v:Value):fits false n (.raw v)=(IV.one (.raw v)&&n == 1):=by simp[fits]
@[go_sem] def RA (n:Nat)(t:Tag)(v:List IV):fits false n (.sl t v)=(n == 1):=by simp[fits,IV.one]
@[go_sem] def RB (n:Nat)(x:IV):fits false n (.cptr x)=(n == 1):=by simp[fits,IV.one]
@[go_sem] def HK (k:IntKind)(n:Int):IV.one (.raw (.int k n))=true:=(rfl)
@[go_sem] def zR (b:Bool):IV.one (.raw (.bool b))=true:=(rfl)
@[go_sem] def zT (s:ByteArray):IV.one (.raw (.string s))=true:=(rfl)
@[go_sem] def zU (a:Option Nat):IV.one (.raw (.map a))=true:=(rfl)
@[go_sem] def zV:IV.one (.raw .nilFunc)=true:=(rfl)
@[go_sem] def IV.one_sl (t:Tag)(v:List IV):IV.one (.sl t v)=true:=(rfl)
@[go_sem] def IV.one_fn (f:Fn)(a b:List IV):IV.one (.fn f a b)=true:=(rfl)
@[go_sem] def zW (x:IV):IV.one (.cptr x)=true:=(rfl)
@[go_sem] def ke (cs:List IV):IV.cells (.agg cs)=cs:=(rfl)
@[go_sem] def zX (v:Value):IV.cells (.raw v)=[.raw v]:=(rfl)
@[go_sem] def zY (t:Tag)(v:List IV):IV.cells (.sl t v)=[.sl t v]:=(rfl)
@[go_sem] def zZ (f:Fn)(a b:List IV):IV.cells (.fn f a b)=[.fn f a b]:=(rfl)
@[go_sem] def z6 (x:IV):IV.cells (.cptr x)=[.cptr x]:=(rfl)
def ISt.put (st:ISt)(b:Nat)(o:Option IObj):ISt:=λc=>if c=b then o else st c
def ISt.put_apply (st:ISt)(b:Nat)(o:Option IObj)(c:Nat):st.put b o c=if c=b then o else st c:=rfl
@[go_sem] def cT (st:ISt)(b:Nat)(o:Option IObj):st.put b o b=o:=b_ rfl
def cmpI (op:BinOp)(x y:Int):Option Value :=
 match op with
 | .eql=>some (.bool (decide (x=y)))
 | .neq=>some (.bool (!decide (x=y)))
 | .lss=>some (.bool (decide (x<y)))
 | .leq=>some (.bool (decide (x<=y)))
 | .gtr=>some (.bool (decide (y<x)))
 | .geq=>some (.bool (decide (y<=x)))
 | _=>none
def binI (P:Program)(T:TypeId)(op:BinOp):Value->Value->Option Value
 | .int k x,.int A y =>
  if op=.shl then (if 0<=y then some (.int k (k.wrap (x*2 ^ (min y.toNat k.bits)))) else none)
  else if op=.shr then (if 0<=y then some (.int k (x.fdiv (2 ^ (min y.toNat k.bits)))) else none)
  else if k=A then
   match op with
   | .and=>some (.int k (k.wrap ((BitVec.ofInt k.bits x &&& BitVec.ofInt k.bits y).toNat:Int)))
   | .andNot=>some (.int k (k.wrap ((BitVec.ofInt k.bits x &&& ~~~(BitVec.ofInt k.bits y)).toNat:Int)))
   | .add=>some (.int k (k.wrap (x+y)))
   | .sub=>some (.int k (k.wrap (x-y)))
   | .mul=>some (.int k (k.wrap (x*y)))
   | .quo=>if y=0 then none else some (.int k (k.wrap (x.tdiv y)))
   | .rem=>if y=0 then none else some (.int k (x.tmod y))
   | op=>cmpI op x y
  else none
 | .string a,.string b =>
  match op with
  | .add=>if a.size+b.size<=281474976710656 then some (.string (a++b)) else none
  | .eql=>some (.bool (decide (a=b)))
  | .neq=>some (.bool (!decide (a=b)))
  | .lss=>some (.bool (Op.bytesLess a.data.toList b.data.toList))
  | .leq=>some (.bool (Op.bytesLess a.data.toList b.data.toList || decide (a=b)))
  | .gtr=>some (.bool (!(Op.bytesLess a.data.toList b.data.toList || decide (a=b))))
  | .geq=>some (.bool (!(Op.bytesLess a.data.toList b.data.toList)))
  | _=>none
 | .bool a,.bool b =>
  match P.underlying T with
  | some .bool =>
   match op with
   | .eql=>some (.bool (a == b))
   | .neq=>some (.bool (!(a == b)))
   | _=>none
  | _=>none
 | _,_=>none
section
variable (P:Program)(T:TypeId)(k:IntKind)(x y:Int)(a b:ByteArray)
@[go_sem] def RC:binI P T .add (.int k x) (.int k y)=some (.int k (k.wrap (x+y))):=by simp[binI]
@[go_sem] def RD:binI P T .sub (.int k x) (.int k y)=some (.int k (k.wrap (x-y))):=by simp[binI]
@[go_sem] def RE:binI P T .mul (.int k x) (.int k y)=some (.int k (k.wrap (x*y))):=by simp[binI]
@[go_sem] def RG (A:IntKind):binI P T .shr (.int k x) (.int A y)=if 0<=y then some (.int k (x.fdiv (2 ^ (min y.toNat k.bits)))) else none:=by simp[binI]
@[go_sem] def RH:binI P T .quo (.int k x) (.int k y)=if y=0 then none else some (.int k (k.wrap (x.tdiv y))):=by simp[binI]
@[go_sem] def RI:binI P T .eql (.int k x) (.int k y)=some (.bool (decide (x=y))):=by simp[binI,cmpI]
@[go_sem] def RJ:binI P T .neq (.int k x) (.int k y)=some (.bool (!decide (x=y))):=by simp[binI,cmpI]
@[go_sem] def RK:binI P T .lss (.int k x) (.int k y)=some (.bool (decide (x<y))):=by simp[binI,cmpI]
@[go_sem] def RL:binI P T .leq (.int k x) (.int k y)=some (.bool (decide (x<=y))):=by simp[binI,cmpI]
@[go_sem] def RM:binI P T .gtr (.int k x) (.int k y)=some (.bool (decide (y<x))):=by simp[binI,cmpI]
@[go_sem] def RO:binI P T .geq (.int k x) (.int k y)=some (.bool (decide (y<=x))):=by simp[binI,cmpI]
@[go_sem] def RP:binI P T .add (.string a) (.string b)=if a.size+b.size<=281474976710656 then some (.string (a++b)) else none:=(rfl)
@[go_sem] def RR:binI P T .eql (.string a) (.string b)=some (.bool (decide (a=b))):=(rfl)
@[go_sem] def RS:binI P T .neq (.string a) (.string b)=some (.bool (!decide (a=b))):=(rfl)
@[go_sem] def RU:binI P T .lss (.string a) (.string b)=some (.bool (Op.bytesLess a.data.toList b.data.toList)):=(rfl)
end
def qK (P:Program)(T:TypeId):Bool:=match P.underlying T with|some .bool=>true|_=>false
@[go_sem] def RV (P:Program)(T:TypeId)(h:qK P T=true)(a b:Bool):binI P T .eql (.bool a) (.bool b)=some (.bool (a == b)):=by
 unfold qK at h;unfold binI;split at h<;>simp_all
@[go_sem] def RW (P:Program)(T:TypeId)(h:qK P T=true)(a b:Bool):binI P T .neq (.bool a) (.bool b)=some (.bool (!(a == b))):=by
 unfold qK at h;unfold binI;split at h<;>simp_all
def kK:IV->Option Bool
 | .sl ⟨_,.nil,_⟩ _=>some true
 | .sl ⟨_,.app _,_⟩ _=>some false
 | .sl _ (_::_)=>some false
 | _=>none
def nC (P:Program)(T:TypeId):Bool:=match P.underlying T with|some (.slice _)=>true|_=>false
def binV (P:Program)(T:TypeId)(op:BinOp):IV->IV->Option IV
 | .raw x,.raw y=>(binI P T op x y).map .raw
 | .sl t A,.sl ⟨_,.nil,_⟩ _=>if nC P T then (match op with
   | .eql=>(kK (.sl t A)).map λb=>.raw (.bool b)
   | .neq=>(kK (.sl t A)).map λb=>.raw (.bool !b)
   | _=>none) else none
 | _,_=>none
@[go_sem] def RX (P:Program)(T:TypeId)(op:BinOp)(x y:Value):binV P T op (.raw x) (.raw y)=(binI P T op x y).map .raw:=(rfl)
def unI (op:UnOp):IV->Option IV
 | .raw (.bool b)=>match op with
  | .not=>some (.raw (.bool !b))
  | _=>none
 | .raw (.int k n)=>match op with
  | .neg=>some (.raw (.int k (k.wrap (0-n))))
  | _=>none
 | _=>none
@[go_sem] def RY (b:Bool):unI .not (.raw (.bool b))=some (.raw (.bool !b)):=(rfl)
def qL (P:Program)(T:TypeId):Bool:=match P.underlying T with
 | some (.slice e)=>(match P.underlying e with|some (.int .u8)=>true|_=>false)
 | _=>false
def strT (P:Program)(T:TypeId):Bool:=match P.underlying T with|some .string=>true|_=>false
def lJ:List IV->Option (List UInt8)
 | []=>some []
 | .raw (.int .u8 n)::l=>if 0<=n/\n<256 then (lJ l).map (UInt8.ofNat n.toNat::·) else none
 | _=>none
@[go_sem] def HL:lJ []=some []:=(rfl)
@[go_sem] def HM (b:UInt8)(l:List IV):lJ (.raw (.int .u8 (b.toNat:Int))::l)=(lJ l).map (b::·):=by
 have:=b.toNat_lt;simp only[lJ];rw[b_ ⟨by omega,by omega⟩];simp
def nD (P:Program)(src dst:TypeId):IV->Option IV
 | .sl _ A=>if qL P src=true/\strT P dst=true then (lJ A).bind λl=>if l=[] then none else some (.raw (.string ⟨l.toArray⟩)) else none
 | .raw (.int _ n)=>match P.underlying src,P.underlying dst with
  | some (.int _),some (.int k)=>some (.raw (.int k (k.wrap n)))
  | _,_=>none
 | _=>none
@[go_sem] def z_ (P:Program)(src dst:TypeId){k A:IntKind}(h:intK P src=some k)(D:intK P dst=some A)(j:IntKind)(n:Int) :
  nD P src dst (.raw (.int j n))=some (.raw (.int A (A.wrap n))):=by
 unfold intK at h D;unfold nD;split at h<;>split at D<;>simp_all
@[go_sem] def RZ (P:Program)(src dst:TypeId)(t:Tag)(A:List IV)(h:qL P src=true)(D:strT P dst=true) :
  nD P src dst (.sl t A)=(lJ A).bind λl=>if l=[] then none else some (.raw (.string ⟨l.toArray⟩)):=by simp[nD,h,D]
def qM:List Value->List Value->Bool
 | [.string a,.int _ n],[.string b,.int _ m]=>decide (a=b)&&decide (n=m)
 | [.bool a,.int _ n],[.bool b,.int _ m]=>decide (a=b)&&decide (n=m)
 | [.int _ n,.bool a],[.int _ m,.bool b]=>decide (n=m)&&decide (a=b)
 | _,_=>false
def f_:Value->Value->Bool
 | .string a,.string b=>decide (a=b)
 | .int _ a,.int _ b=>decide (a=b)
 | .agg a,.agg b=>qM a.toList b.toList
 | _,_=>false
def keyI:Value->Option IV
 | .string s=>if s.size<=281474976710656 then some (.raw (.string s)) else none
 | .int k n=>some (.raw (.int k n))
 | .agg cs=>match cs.toList with
  | [.string s,.int k n]=>if s.size<=281474976710656 then some (.agg [.raw (.string s),.raw (.int k n)]) else none
  | [.bool b,.int k n]=>some (.agg [.raw (.bool b),.raw (.int k n)])
  | [.int k n,.bool b]=>some (.agg [.raw (.int k n),.raw (.bool b)])
  | _=>none
 | _=>none
def jb (A:Array MapEntry)(seen:Array Nat):List MapEntry:=A.toList.filter λe=>!seen.contains e.born
def qN (A:Array MapEntry)(seen:Array Nat):Option IV:=seen.back?.bind λb=>(A.toList.find? λe=>e.born == b).bind λe=>keyI e.key
def valI:Value->IV
 | .int k n=>.raw (.int k n)
 | _=>.junk
def pz (A:Array MapEntry)(seen:Array Nat):IV:=match seen.back?.bind λb=>A.toList.find? λe=>e.born == b with
 | some e=>valI e.val
 | none=>.junk
def e8 (k:Value):List (Value×IV)->Option IV
 | []=>none
 | (x,v)::l=>if f_ k x then some v else e8 k l
def updI (k:Value)(v:IV):List (Value×IV)->List (Value×IV)
 | []=>[(k,v)]
 | (x,u)::l=>if f_ k x then (k,v)::l else (x,u)::updI k v l
end Go.Iv
def dEf {p:Prop} [Decidable p](h:¬p):decide p=false:=decide_eq_false h
def dEt {p:Prop} [Decidable p](h:p):decide p=true:=decide_eq_true h
def iNn (n:Nat):(0:Int)<=(n:Int):=Int.natCast_nonneg n
def lMg {α:Type _}{l:List α}{i:Nat}{a:α}(h:l[i]?=some a):a∈l:=List.mem_of_getElem? h
def lTl {α:Type _}{l:List α}:l.take l.length=l:=List.take_length
def bAt (a b:Bool):((a&&b)=true)=(a=true/\b=true):=Bool.and_eq_true a b
def nLi (n:Nat):¬n<n:=Nat.lt_irrefl n
def lLa {α:Type _}{l m:List α}:(l++m).length=l.length+m.length:=List.length_append
def lGs {α:Type _}{l:List α}{i:Nat}{a:α}(h:l[i]?=some a):∃h:i<l.length,l[i]=a:=mJ.1 h
def nTf:(¬True)=False:=not_true_eq_false
def nFt:(¬False)=True:=not_false_eq_true
def bFt:(false=true)=False:=Bool.false_eq_true
def dTe {p:Prop} [Decidable p]:(decide p=true)=p:=decide_eq_true_eq
def lSm {α:Type _} [SizeOf α]{a:α}{l:List α}(h:a∈l):sizeOf a<sizeOf l:=List.sizeOf_lt_of_mem h
