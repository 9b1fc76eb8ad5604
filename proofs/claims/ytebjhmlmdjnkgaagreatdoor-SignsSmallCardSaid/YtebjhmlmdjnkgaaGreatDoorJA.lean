/- The layer of ideal values, part A: ideal -/
import Derived.OrdersIn
import Derived.Laws.CopyRow
import Derived.RangeFuncRecord
import Derived.DeepKeys4
set_option linter.all false
namespace Go.Iv
open Go
inductive Cap where
 | none
 | nil
 | full
 | app (g:Nat)
 deriving DecidableEq
structure Tag where
 fresh:Bool
 cap:Cap
 es:Nat
inductive IV where
 | raw (v:Value)
 | agg (cs:List IV)
 | tup (vs:List IV)
 | fn (f:Fn) (first caps:List IV)
 | sl (t:Tag) (xs:List IV)
 | cptr (x:IV)
 | junk
def IV.cells:IV->List IV
 | .agg cs=>cs
 | x=>[x]
def IV.one:IV->Bool
 | .raw (.agg _)=>false
 | .raw (.tuple _)=>false
 | .raw _=>true
 | .fn ..=>true
 | .sl ..=>true
 | .cptr _=>true
 | _=>false
def zQm:Cap->Option Addr->Nat->Nat->Prop
 | .none,_,_,_=>True
 | .nil,a,n,c=>a=Option.none/\n=0/\c=0
 | .full,_,n,c=>c=n
 | .app g,a,_,_=>a=some ⟨g,0,Option.none⟩
def zZk:Value->Prop
 | .string s=>s.size<=281474976710656
 | _=>True
def shq (w:World)(b:Nat):Option ((TypeId×Nat)×Bool) :=
 match w.heap[b]? with
 | some (.cells c e f)=>some ((e,c.size),f == (0,0))
 | _=>none
def ety (w:World)(b:Nat):Option TypeId:=(shq w b).map (·.1.1)
inductive V (B:Nat)(L:Nat->Nat)(w:World):Value->IV->Prop
 | raw (v:Value) (h:zZk v):V B L w v (.raw v)
 | junk (v:Value):V B L w v .junk
 | agg (rs:List Value) (cs:List IV) (hl:rs.length=cs.length) (h:∀(i:Nat) (r:Value) (c:IV),rs[i]?=some r->cs[i]?=some c->V B L w r c) :
   V B L w (.agg ⟨rs⟩) (.agg cs)
 | tup (rs:List Value) (cs:List IV) (hl:rs.length=cs.length) (h:∀(i:Nat) (r:Value) (c:IV),rs[i]?=some r->cs[i]?=some c->V B L w r c) :
   V B L w (.tuple ⟨rs⟩) (.tup cs)
 | fn (f:Fn) (rs:List Value) (cs:List IV) (hl:rs.length=cs.length) (h:∀(i:Nat) (r:Value) (c:IV),rs[i]?=some r->cs[i]?=some c->V B L w r c)
   (rs':List Value) (cs':List IV) (hl':rs'.length=cs'.length) (h':∀(i:Nat) (r:Value) (c:IV),rs'[i]?=some r->cs'[i]?=some c->V B L w r c) :
   V B L w (.func f ⟨rs⟩ ⟨rs'⟩) (.fn f cs cs')
 | sl (a:Option Addr) (cap:Nat) (t:Tag) (xs:List IV) (T:TypeId) (vs:List Value)
   (hcap:zQm t.cap a xs.length cap) (hlen:xs.length<=140737488355328) (hcl:xs.length<=cap)
   (hs:∀x∈xs,x.cells.length=t.es) (hvl:vs.length=xs.length*t.es)
   (hroom:∀g,t.cap=.app g->∃T' k,shq w g=some ((T',k),true)/\cap*t.es<=k)
   (hfresh:t.fresh=true->∀ad:Addr,a=some ad->B<=ad.block/\ad.off%t.es=0/\ety w ad.block=some T)
   (hplace:xs≠[]->∃ad:Addr,a=some ad/\ad.spot=Option.none/\ad.off+vs.length<=L ad.block /\
    (∀(i:Nat) (r:Value),vs[i]?=some r->w.cell? ⟨ad.block,ad.off+i,Option.none⟩=some r))
   (h:∀(i:Nat) (r:Value) (c:IV),vs[i]?=some r->(xs.flatMap IV.cells)[i]?=some c->V B L w r c) :
   V B L w (.slice a xs.length cap) (.sl t xs)
 | cptr (ad:Addr) (x:IV) (vs:List Value) (hsp:ad.spot=Option.none) (hvl:vs.length=x.cells.length) (hL:ad.off+vs.length<=L ad.block)
   (hc:∀(i:Nat) (r:Value),vs[i]?=some r->w.cell? ⟨ad.block,ad.off+i,Option.none⟩=some r)
   (h:∀(i:Nat) (r:Value) (c:IV),vs[i]?=some r->x.cells[i]?=some c->V B L w r c) :
   V B L w (.pointer (some ad)) (.cptr x)
theorem V.mono {B:Nat}{L L':Nat->Nat}{w w':World}{r:Value}{x:IV}(h:V B L w r x)(hL:∀b,L b<=L' b)
  (hc:∀b i,i<L b->w'.cell? ⟨b,i,none⟩=w.cell? ⟨b,i,none⟩) (hT:∀b p,shq w b=some p->shq w' b=some p):V B L' w' r x:=by
 induction h with
 | raw v h=>exact .raw v h
 | junk v=>exact .junk v
 | agg rs cs hl _ ih=>exact .agg rs cs hl ih
 | tup rs cs hl _ ih=>exact .tup rs cs hl ih
 | fn f rs cs hl _ rs' cs' hl' _ ih ih'=>exact .fn f rs cs hl ih rs' cs' hl' ih'
 | sl a cap t xs T vs hcap hlen hcl hs hvl hroom hfresh hplace _ ih =>
  refine .sl a cap t xs T vs hcap hlen hcl hs hvl (λg hg=>?_) (λhf ad ha=>?_) (λhne=>?_) ih
  ·obtain⟨T',k,h1,h2⟩:=hroom g hg;exact⟨T',k,hT _ _ h1,h2⟩
  ·obtain⟨h1,h2,h3⟩:=hfresh hf ad ha;refine⟨h1,h2,?_⟩;unfold ety at h3 ⊢;cases hq:shq w ad.block with
   | none=>simp[hq] at h3
   | some p=>rw[hT _ _ hq];rw[hq] at h3;exact h3
  ·obtain⟨ad,ha,hsp,hLe,hcell⟩:=hplace hne;refine⟨ad,ha,hsp,Nat.le_trans hLe (hL _),λi r hr=>?_⟩;have hi:=(List.getElem?_eq_some_iff.1 hr).1;rw[hc _ _ (by omega)];exact hcell i r hr
 | cptr ad x vs hsp hvl hLe hcell _ ih =>
  refine .cptr ad x vs hsp hvl (Nat.le_trans hLe (hL _)) (λi r hr=>?_) ih;have hi:=(List.getElem?_eq_some_iff.1 hr).1;rw[hc _ _ (by omega)];exact hcell i r hr
def VL (B:Nat)(L:Nat->Nat)(w:World)(rs:List Value)(cs:List IV):Prop :=
 rs.length=cs.length/\∀(i:Nat) (r:Value) (c:IV),rs[i]?=some r->cs[i]?=some c->V B L w r c
theorem VL.mono {B:Nat}{L L':Nat->Nat}{w w':World}{r:List Value}{x:List IV}(h:VL B L w r x)(hL:∀b,L b<=L' b)
  (hc:∀b i,i<L b->w'.cell? ⟨b,i,none⟩=w.cell? ⟨b,i,none⟩) (hT:∀b p,shq w b=some p->shq w' b=some p):VL B L' w' r x :=
 ⟨h.1,λi r c hr hx=>(h.2 i r c hr hx).mono hL hc hT⟩
section
variable {B:Nat}{L:Nat->Nat}{w:World}
theorem VL.nil:VL B L w [] []:=⟨rfl,λi r c h=>by simp at h⟩
theorem VL.cons {r:Value}{c:IV}{rs:List Value}{cs:List IV}(h:V B L w r c)(hs:VL B L w rs cs):VL B L w (r::rs) (c::cs) :=
 ⟨by simp[hs.1],λi a b ha hb=>by
  cases i with
  | zero=>simp at ha hb;exact ha▸hb▸h
  | succ i=>exact hs.2 i a b (by simpa using ha) (by simpa using hb)⟩
theorem VL.get {rs:List Value}{cs:List IV}(h:VL B L w rs cs){i:Nat}{c:IV}(hc:cs[i]?=some c):∃r,rs[i]?=some r/\V B L w r c:=by
 have hi:=(List.getElem?_eq_some_iff.1 hc).1;have hr:rs[i]?=some (rs[i]'(by rw[h.1];exact hi)):=List.getElem?_eq_getElem _;exact⟨_,hr,h.2 i _ _ hr hc⟩
theorem VL.append {r1 r2:List Value}{c1 c2:List IV}(h1:VL B L w r1 c1)(h2:VL B L w r2 c2):VL B L w (r1++r2) (c1++c2):=by
 refine⟨by simp[h1.1,h2.1],λi r c hr hc=>?_⟩;by_cases hi:i<r1.length
 ·rw[List.getElem?_append_left hi] at hr;rw[List.getElem?_append_left (by rw[<- h1.1];exact hi)] at hc;exact h1.2 i r c hr hc
 ·rw[List.getElem?_append_right (by omega)] at hr;rw[List.getElem?_append_right (by rw[<- h1.1];omega),<- h1.1] at hc;exact h2.2 _ r c hr hc
theorem VL.take {rs:List Value}{cs:List IV}(h:VL B L w rs cs)(n:Nat):VL B L w (rs.take n) (cs.take n):=by
 refine⟨by simp[h.1],λi r c hr hc=>?_⟩;rw[List.getElem?_take] at hr hc;split at hr<;>rename_i hi
 ·rw[if_pos hi] at hc;exact h.2 i r c hr hc
 ·cases hr
theorem VL.drop {rs:List Value}{cs:List IV}(h:VL B L w rs cs)(n:Nat):VL B L w (rs.drop n) (cs.drop n):=by
 refine⟨by simp[h.1],λi r c hr hc=>?_⟩;rw[List.getElem?_drop] at hr hc;exact h.2 _ r c hr hc
theorem VL.set {rs:List Value}{cs:List IV}(h:VL B L w rs cs)(i:Nat){v:Value}{x:IV}(hv:V B L w v x):VL B L w (rs.set i v) (cs.set i x):=by
 refine⟨by simp[h.1],λj r c hr hc=>?_⟩;rw[List.getElem?_set] at hr hc;by_cases hij:i=j
 ·rw[if_pos hij] at hr hc;split at hr
  ·rw[if_pos (by rw[<- h.1];assumption)] at hc;cases hr;cases hc;exact hv
  ·cases hr
 ·rw[if_neg hij] at hr hc;exact h.2 j r c hr hc
theorem V.agg_inv {r:Value}{cs:List IV}(h:V B L w r (.agg cs)):∃rs:List Value,r=.agg ⟨rs⟩/\VL B L w rs cs:=by
 cases h with
 | agg rs cs hl h=>exact⟨rs,rfl,hl,h⟩
theorem V.tup_inv {r:Value}{cs:List IV}(h:V B L w r (.tup cs)):∃rs:List Value,r=.tuple ⟨rs⟩/\VL B L w rs cs:=by
 cases h with
 | tup rs cs hl h=>exact⟨rs,rfl,hl,h⟩
theorem V.fn_inv {r:Value}{f:Fn}{cs cs':List IV}(h:V B L w r (.fn f cs cs')):∃rs rs':List Value,r=.func f ⟨rs⟩ ⟨rs'⟩/\VL B L w rs cs/\VL B L w rs' cs':=by
 cases h with
 | fn f rs cs hl h rs' cs' hl' h'=>exact⟨rs,rs',rfl,⟨hl,h⟩,hl',h'⟩
theorem V.raw_inv {r v:Value}(h:V B L w r (.raw v)):r=v:=by
 cases h;rfl
theorem V.raw_ok {r v:Value}(h:V B L w r (.raw v)):zZk v:=by
 cases h;assumption
theorem VL.agg {rs:List Value}{cs:List IV}(h:VL B L w rs cs):V B L w (.agg ⟨rs⟩) (.agg cs):=.agg rs cs h.1 h.2
theorem VL.tup {rs:List Value}{cs:List IV}(h:VL B L w rs cs):V B L w (.tuple ⟨rs⟩) (.tup cs):=.tup rs cs h.1 h.2
theorem V.cells {r:Value}{x:IV}(h:V B L w r x)(hx:∀v,x≠.raw (.agg v))(hj:x≠.junk):VL B L w r.cells.toList x.cells:=by
 cases h with
 | raw _ h =>
  have:r.cells=#[r]:=by cases r<;>first|rfl|exact absurd rfl (hx _)
  rw[this];exact VL.cons (.raw r h) VL.nil
 | junk _=>exact absurd rfl hj
 | agg rs cs hl h=>exact⟨hl,h⟩
 | tup rs cs hl h=>exact VL.cons (.tup rs cs hl h) VL.nil
 | fn f rs cs hl h rs' cs' hl' h'=>exact VL.cons (.fn f rs cs hl h rs' cs' hl' h') VL.nil
 | sl a cap t xs T vs h1 h2 h3 h4 h5 h6 h7 h8 h9=>exact VL.cons (.sl a cap t xs T vs h1 h2 h3 h4 h5 h6 h7 h8 h9) VL.nil
 | cptr ad x vs h1 h2 h3 h4 h5=>exact VL.cons (.cptr ad x vs h1 h2 h3 h4 h5) VL.nil
def Value.flat:Value->Bool
 | .agg _=>false
 | .tuple _=>false
 | _=>true
theorem V.flat {r:Value}{x:IV}(h:V B L w r x)(hx:x.one=true):Value.flat r=true:=by
 cases h with
 | raw _ _=>cases r<;>first|rfl|simp[IV.one] at hx
 | junk _=>simp[IV.one] at hx
 | agg=>simp[IV.one] at hx
 | tup=>simp[IV.one] at hx
 | fn=>rfl
 | sl=>rfl
 | cptr=>rfl
theorem IV.one_cells {x:IV}(hx:x.one=true):x.cells=[x]:=by
 cases x<;>first|rfl|simp[IV.one] at hx
end
inductive KeyK where
 | str
 | int (k:IntKind)
 /-- a struct of a string and an int -/
 | sym
 /-- a struct of a bool and a u8 -/
 | sg
 /-- a struct of an int and a bool -/
 | pl
def plK:List Value->Bool
 | [.int .i64 n,.bool _]=>decide (-9223372036854775808<=n)&&decide (n<=9223372036854775807)
 | _=>false
def sgK:List Value->Bool
 | [.bool _,.int .u8 n]=>decide (0<=n)&&decide (n<=255)
 | _=>false
def symK:List Value->Bool
 | [.string s,.int .i64 n]=>decide (s.size<=281474976710656)&&decide (-9223372036854775808<=n)&&decide (n<=9223372036854775807)
 | _=>false
def yZ1:KeyK->Value->Bool
 | .str,.string _=>true
 | .int k,.int k' _=>k == k'
 | .sym,.agg cs=>symK cs.toList
 | .sg,.agg cs=>sgK cs.toList
 | .pl,.agg cs=>plK cs.toList
 | _,_=>false
inductive IObj where
 | box (cs:List IV)
 | front (n s:Nat)
 | map (k:KeyK) (es:List (Value×IV))
 /-- the record of a range over a function; what its frame reads aL -/
 | loop (r:Loop) (xs:Nat->IV)
 /-- a map that is ranged over: its entries to the letter -/
 | mapx (ents:Array MapEntry) (clock:Nat)
 /-- a range over map m -/
 | iter (m since:Nat) (seen:Array Nat) (c:Nat)
abbrev ISt:=Nat->Option IObj
structure Cx where
 P:Program
 gl:Nat->Option IV
 B:Nat
structure WS where
 w:World
 L:Nat->Nat
 st:ISt
 d:Nat
abbrev Cx.v (C:Cx)(X:WS):Value->IV->Prop:=V C.B X.L X.w
abbrev Cx.vl (C:Cx)(X:WS):List Value->List IV->Prop:=VL C.B X.L X.w
def ObjOk (C:Cx)(X:WS)(b:Nat):IObj->Prop
 | .box cs=>X.L b=0/\∃(c:Array Value) (T:TypeId),X.w.heap[b]?=some (.cells c T (0,0))/\C.vl X c.toList cs
 | .front n s=>∃(c:Array Value) (T:TypeId),X.w.heap[b]?=some (.cells c T (0,0))/\X.L b=n*s/\X.L b<=c.size
 | .map kk es=>X.L b=0/\(∀p∈es,yZ1 kk p.1=true)/\(es.map (·.1)).Nodup/\∃(ents:Array MapEntry) (clock:Nat),X.w.heap[b]?=some (.map ents clock)/\ents.toList.map (·.key)=es.map (·.1) /\
   C.vl X (ents.toList.map (·.val)) (es.map (·.2))/\(∀e∈ents.toList,e.born<clock)/\ents.toList.Pairwise (λe e'=>e.born<e'.born)
 | .loop r xs=>X.L b=0/\X.w.heap[b]?=some (.loop r)/\∀t,C.v X (r.tmps.getD t undef) (xs t)
 | .mapx ents clock=>X.L b=0/\X.w.heap[b]?=some (.map ents clock)
 | .iter m since seen c=>X.L b=0/\X.w.heap[b]?=some (.mapIter (some m) since seen c)
structure Good (C:Cx)(X:WS):Prop where
 ok:∀b o,X.st b=some o->ObjOk C X b o
 gl:∀g x,C.gl g=some x->C.v X (.pointer (some ⟨g,0,none⟩)) (.cptr x)
 B:C.B<=X.w.heap.size
 Lnew:∀b,X.w.heap.size<=b->X.L b=0
 gsh:∀g x,C.gl g=some x->∃T z,shq X.w g=some ((T,x.cells.length),z)
 /-- of contracts that lean on no global of the library's (these rest on contracts that do not tell what is drawn) -/
 dr:(∀g,C.gl g=none)->X.d<=X.w.drawn
structure Ext (X X':WS):Prop where
 os:X'.w.os=X.w.os
 tape:X'.w.tape=X.w.tape
 output:X'.w.output=X.w.output
 size:X.w.heap.size<=X'.w.heap.size
 lmono:∀b,X.L b<=X'.L b
 cells:∀b i,i<X.L b->X'.w.cell? ⟨b,i,none⟩=X.w.cell? ⟨b,i,none⟩
 keep:∀b,b<X.w.heap.size->X.st b=none->X'.w.heap[b]?=X.w.heap[b]?/\X'.L b=X.L b
 dom:∀b,b<X.w.heap.size->X.st b=none->X'.st b=none
 shape:∀b p,shq X.w b=some p->shq X'.w b=some p
 d:X'.d=X.d
theorem Ext.refl (X:WS):Ext X X:=⟨rfl,rfl,rfl,Nat.le_refl _,λ_=>Nat.le_refl _,λ_ _ _=>rfl,λ_ _ _=>⟨rfl,rfl⟩,λ_ _ h=>h,λ_ _ h=>h,rfl⟩
theorem Ext.trans {X Y Z:WS}(h:Ext X Y)(k:Ext Y Z):Ext X Z where
 os:=k.os.trans h.os
 tape:=k.tape.trans h.tape
 output:=k.output.trans h.output
 size:=Nat.le_trans h.size k.size
 lmono b:=Nat.le_trans (h.lmono b) (k.lmono b)
 cells b i hi:=(k.cells b i (Nat.lt_of_lt_of_le hi (h.lmono b))).trans (h.cells b i hi)
 keep b hb hs:=by
  obtain⟨h1,h2⟩:=h.keep b hb hs;obtain⟨k1,k2⟩:=k.keep b (Nat.lt_of_lt_of_le hb h.size) (h.dom b hb hs);exact⟨k1.trans h1,k2.trans h2⟩
 dom b hb hs:=k.dom b (Nat.lt_of_lt_of_le hb h.size) (h.dom b hb hs)
 shape b p hp:=k.shape b p (h.shape b p hp)
 d:=k.d.trans h.d
theorem Ext.v {C:Cx}{X Y:WS}(h:Ext X Y){r:Value}{x:IV}(hv:C.v X r x):C.v Y r x:=V.mono hv h.lmono h.cells h.shape
theorem Ext.vl {C:Cx}{X Y:WS}(h:Ext X Y){r:List Value}{x:List IV}(hv:C.vl X r x):C.vl Y r x:=VL.mono hv h.lmono h.cells h.shape
theorem Good.lt {C:Cx}{X:WS}(h:Good C X){b:Nat}{o:IObj}(hb:X.st b=some o):b<X.w.heap.size:=by
 have key:∀o',X.w.heap[b]?=some o'->b<X.w.heap.size:=λo' ho=>(Array.getElem?_eq_some_iff.1 ho).1;have:=h.ok b o hb;cases o with
 | box cs=>obtain⟨_,c,T,hh,_⟩:=this;exact key _ hh
 | front n s=>obtain⟨c,T,hh,_⟩:=this;exact key _ hh
 | map k es=>obtain⟨_,_,_,e,cl,hh,_⟩:=this;exact key _ hh
 | loop r xs=>exact key _ this.2.1
 | mapx e c=>exact key _ this.2
 | iter m s e c=>exact key _ this.2
theorem ObjOk.mono {C:Cx}{X Y:WS}{b:Nat}{o:IObj}(h:ObjOk C X b o)(hb:Y.w.heap[b]?=X.w.heap[b]?)(hL:Y.L b=X.L b)
  (hvl:∀r x,C.vl X r x->C.vl Y r x):ObjOk C Y b o:=by
 cases o with
 | box cs =>
  obtain⟨h0,c,T,hh,hv⟩:=h;exact⟨hL.trans h0,c,T,hb.trans hh,hvl _ _ hv⟩
 | front n s =>
  obtain⟨c,T,hh,h2,h3⟩:=h;exact⟨c,T,hb.trans hh,hL.trans h2,by rw[hL];exact h3⟩
 | map k es =>
  obtain⟨h0,hk,hnd,e,cl,hh,h1,h2,h3,h4⟩:=h;exact⟨hL.trans h0,hk,hnd,e,cl,hb.trans hh,h1,hvl _ _ h2,h3,h4⟩
 | mapx e c=>exact⟨hL.trans h.1,hb.trans h.2⟩
 | iter m s e c=>exact⟨hL.trans h.1,hb.trans h.2⟩
 | loop r xs=>exact⟨hL.trans h.1,hb.trans h.2.1,λt=>by
   have:=hvl [r.tmps.getD t undef] [xs t] (VL.cons (h.2.2 t) VL.nil);exact this.2 0 _ _ rfl rfl⟩
inductive SV where
 | iv (x:IV)
 | box (cs:List IV)
abbrev Fr:=Nat->SV
def Fr.put (fr:Fr)(t:Nat)(v:SV):Fr:=λs=>if s=t then v else fr s
theorem Fr.put_apply (fr:Fr)(t:Nat)(v:SV)(s:Nat):fr.put t v s=if s=t then v else fr s:=(rfl)
inductive Dfd where
 | call (f:Fn) (caps args:List IV)
 | coll (r:Nat)
abbrev tm (ts:Array Value)(t:Nat):Value:=ts.getD t undef
def SlotOk (C:Cx)(X:WS)(n0:Nat)(r:Value):SV->Prop
 | .iv x=>C.v X r x
 | .box cs=>∃(b:Nat) (c:Array Value) (T:TypeId),r=.pointer (some ⟨b,0,none⟩)/\X.w.heap[b]?=some (.cells c T (0,0))/\C.vl X c.toList cs /\
   X.st b=none/\X.L b=0/\n0<=b
structure FrOk (C:Cx)(X:WS)(n0:Nat)(fr:Fr)(ts:Array Value):Prop where
 slot:∀t,SlotOk C X n0 (tm ts t) (fr t)
 inj:∀t t' cs cs',fr t=.box cs->fr t'=.box cs'->tm ts t=tm ts t'->t=t'
def DfdOk (C:Cx)(X:WS)(n0:Nat)(d:Deferred):Dfd->Prop
 | .call f caps args=>∃rs rs':List Value,d={ target:=.fn f ⟨rs⟩,args:=⟨rs'⟩ }/\C.vl X rs caps/\C.vl X rs' args
 | .coll r=>d={ target:=.collected r,args:=#[] }/\X.w.heap[r]?=some (.deferred (some []))/\X.st r=none/\n0<=r
inductive DsOk (C:Cx)(X:WS)(n0:Nat):List Deferred->List Dfd->Prop
 | nil:DsOk C X n0 [] []
 | cons {d:Deferred} {e:Dfd} {ds:List Deferred} {es:List Dfd} (h:DfdOk C X n0 d e) (hs:DsOk C X n0 ds es) (hn:∀r,e=.coll r->Dfd.coll r ∉ es):DsOk C X n0 (d::ds) (e::es)
structure Inv (C:Cx)(X0:WS)(N:Nat)(X:WS)(fr:Fr)(ds:List Dfd)(a:Act):Prop where
 good:Good C X
 ext:Ext X0 X
 fr:FrOk C X X0.w.heap.size fr a.tmps
 size:a.tmps.size=N
 ds:DsOk C X X0.w.heap.size a.defers ds
abbrev Ad:=Nat->Option (Nat×Nat)
def Ad.none_:Ad:=λ_=>none
def Ad.keep (d:Nat):Option (Nat×Nat)->Option (Nat×Nat)
 | some (t,off)=>if t=d then none else some (t,off)
 | none=>none
def Ad.put (ad:Ad)(d:Nat)(v:Option (Nat×Nat)):Ad:=λs=>if s=d then v else Ad.keep d (ad s)
theorem Ad.put_apply (ad:Ad)(d:Nat)(v:Option (Nat×Nat))(s:Nat):ad.put d v s=if s=d then v else Ad.keep d (ad s):=(rfl)
def AdOk (fr:Fr)(ts:Array Value)(ad:Ad):Prop :=
 ∀x t off,ad x=some (t,off)->∃cs b,fr t=.box cs/\tm ts t=.pointer (some ⟨b,0,none⟩)/\tm ts x=.pointer (some ⟨b,off,none⟩)
theorem AdOk.nil {fr:Fr}{ts:Array Value}:AdOk fr ts Ad.none_:=λ_ _ _ h=>by cases h
section
variable {C:Cx}{X Y:WS}{n0:Nat}
theorem SlotOk.mono {r:Value}{s:SV}(h:SlotOk C X n0 r s)(hv:∀r x,C.v X r x->C.v Y r x)
  (hb:∀b cs,s=.box cs->r=.pointer (some ⟨b,0,none⟩)->X.st b=none->X.L b=0->b<X.w.heap.size->Y.w.heap[b]?=X.w.heap[b]?/\Y.L b=X.L b/\Y.st b=none) :
  SlotOk C Y n0 r s:=by
 cases s with
 | iv x=>exact hv _ _ h
 | box cs =>
  obtain⟨b,c,T,hr,hh,hvl,h1,h2,h3⟩:=h;obtain⟨k1,k2,k3⟩:=hb b cs rfl hr h1 h2 (Array.getElem?_eq_some_iff.1 hh).1;exact⟨b,c,T,hr,k1.trans hh,⟨hvl.1,λi r x hr hx=>hv _ _ (hvl.2 i r x hr hx)⟩,k3,k2.trans h2,h3⟩
theorem DfdOk.mono {d:Deferred}{e:Dfd}(h:DfdOk C X n0 d e)(hv:∀r x,C.v X r x->C.v Y r x)
  (hb:∀r,X.w.heap[r]?=some (.deferred (some []))->X.st r=none->n0<=r->Y.w.heap[r]?=some (.deferred (some []))/\Y.st r=none):DfdOk C Y n0 d e:=by
 cases e with
 | call f caps args =>
  obtain⟨rs,rs',hd,h1,h2⟩:=h;exact⟨rs,rs',hd,⟨h1.1,λi r x hr hx=>hv _ _ (h1.2 i r x hr hx)⟩,⟨h2.1,λi r x hr hx=>hv _ _ (h2.2 i r x hr hx)⟩⟩
 | coll r =>
  obtain⟨hd,h1,h2,h3⟩:=h;obtain⟨k1,k2⟩:=hb r h1 h2 h3;exact⟨hd,k1,k2,h3⟩
theorem DsOk.mono {ds:List Deferred}{es:List Dfd}(h:DsOk C X n0 ds es)(hv:∀r x,C.v X r x->C.v Y r x)
  (hb:∀r,X.w.heap[r]?=some (.deferred (some []))->X.st r=none->n0<=r->Y.w.heap[r]?=some (.deferred (some []))/\Y.st r=none):DsOk C Y n0 ds es:=by
 induction h with
 | nil=>exact .nil
 | cons h _ hn ih=>exact .cons (h.mono hv hb) ih hn
theorem DsOk.lt {C:Cx}{X:WS}{n0:Nat}{ds:List Deferred}{es:List Dfd}(h:DsOk C X n0 ds es){r:Nat}(hr:Dfd.coll r∈es):r<X.w.heap.size:=by
 induction h with
 | nil=>cases hr
 | cons h _ hn ih =>
  rcases List.mem_cons.1 hr with rfl|hr
  ·exact (Array.getElem?_eq_some_iff.1 h.2.1).1
  ·exact ih hr
theorem FrOk.ext {fr:Fr}{ts:Array Value}(h:FrOk C X n0 fr ts)(he:Ext X Y):FrOk C Y n0 fr ts :=
 ⟨λt=>(h.slot t).mono (λ_ _=>he.v) (λb _ _ _ h1 _ hb=>⟨(he.keep b hb h1).1,(he.keep b hb h1).2,he.dom b hb h1⟩),h.inj⟩
theorem DsOk.ext {ds:List Deferred}{es:List Dfd}(h:DsOk C X n0 ds es)(he:Ext X Y):DsOk C Y n0 ds es :=
 h.mono (λ_ _=>he.v) λr h1 h2 _ =>
  have hr:r<X.w.heap.size:=(Array.getElem?_eq_some_iff.1 h1).1
  ⟨(he.keep r hr h2).1.trans h1,he.dom r hr h2⟩
theorem Inv.ext' {X0:WS}{N:Nat}{fr:Fr}{ds:List Dfd}{a:Act}(h:Inv C X0 N X fr ds a)(he:Ext X Y)(hg:Good C Y):Inv C X0 N Y fr ds a :=
 ⟨hg,h.ext.trans he,h.fr.ext he,h.size,h.ds.ext he⟩
theorem yY0 (ts:Array Value)(d:Nat)(v:Value)(t:Nat):tm (ts.setIfInBounds d v) t=if d=t/\d<ts.size then v else tm ts t:=by
 unfold tm;simp only[Array.getD_eq_getD_getElem?,Array.getElem?_setIfInBounds];by_cases h:d=t
 ·subst h;by_cases hd:d<ts.size
  ·simp[hd]
  ·simp[hd]
 ·simp[h]
theorem FrOk.put {fr:Fr}{ts:Array Value}(h:FrOk C X n0 fr ts){d:Nat}(hd:d<ts.size){v:Value}{x:IV}(hv:C.v X v x) :
  FrOk C X n0 (fr.put d (.iv x)) (ts.setIfInBounds d v):=by
 refine⟨λt=>?_,λt t' cs cs' ht ht' he=>?_⟩
 ·rw[yY0,Fr.put_apply];by_cases hdt:t=d
  ·subst hdt;rw[if_pos rfl,if_pos ⟨rfl,hd⟩];exact hv
  ·rw[if_neg hdt,if_neg (λhh=>hdt hh.1.symm)];exact h.slot t
 ·rw[Fr.put_apply] at ht ht';by_cases h1:t=d
  ·rw[if_pos h1] at ht;cases ht
  ·by_cases h2:t'=d
   ·rw[if_pos h2] at ht';cases ht'
   ·rw[if_neg h1] at ht;rw[if_neg h2] at ht';rw[yY0,yY0,if_neg (λhh=>h1 hh.1.symm),if_neg (λhh=>h2 hh.1.symm)] at he;exact h.inj t t' cs cs' ht ht' he
theorem Ad.keep_some {d:Nat}{o:Option (Nat×Nat)}{t off:Nat}(h:Ad.keep d o=some (t,off)):o=some (t,off)/\t≠d:=by
 cases o with
 | none=>cases h
 | some p =>
  obtain⟨t',off'⟩:=p;simp only[Ad.keep] at h;split at h
  ·cases h
  ·rename_i hne;cases h;exact⟨rfl,hne⟩
theorem AdOk.put {fr:Fr}{ts:Array Value}{ad:Ad}(h:AdOk fr ts ad)(d:Nat)(v:Value)(s:SV):AdOk (fr.put d s) (ts.setIfInBounds d v) (ad.put d none):=by
 intro x t off hm;rw[Ad.put_apply] at hm;split at hm
 ·cases hm
 ·rename_i hx;obtain⟨hm,ht⟩:=Ad.keep_some hm;obtain⟨cs,b,h1,h2,h3⟩:=h x t off hm;refine⟨cs,b,?_,?_,?_⟩
  ·rw[Fr.put_apply,if_neg ht];exact h1
  ·rw[yY0,if_neg (λhh=>ht hh.1.symm)];exact h2
  ·rw[yY0,if_neg (λhh=>hx hh.1.symm)];exact h3
theorem AdOk.adr {fr:Fr}{ts:Array Value}{ad:Ad}(h:AdOk fr ts ad){d t off b:Nat}{cs:List IV}(hd:d<ts.size)(hne:d≠t)(ht:fr t=.box cs)(hb:tm ts t=.pointer (some ⟨b,0,none⟩))(s:SV) :
  AdOk (fr.put d s) (ts.setIfInBounds d (.pointer (some ⟨b,off,none⟩))) (ad.put d (some (t,off))):=by
 intro x t' off' hm;rw[Ad.put_apply] at hm;split at hm
 ·rename_i hx;cases hm;refine⟨cs,b,?_,?_,?_⟩
  ·rw[Fr.put_apply,if_neg (λhh=>hne hh.symm)];exact ht
  ·rw[yY0,if_neg (λhh=>hne hh.1)];exact hb
  ·rw[yY0,if_pos ⟨hx.symm,hd⟩]
 ·rename_i hx;obtain⟨hm,ht'⟩:=Ad.keep_some hm;obtain⟨cs',b',h1,h2,h3⟩:=h x t' off' hm;refine⟨cs',b',?_,?_,?_⟩
  ·rw[Fr.put_apply,if_neg ht'];exact h1
  ·rw[yY0,if_neg (λhh=>ht' hh.1.symm)];exact h2
  ·rw[yY0,if_neg (λhh=>hx hh.1.symm)];exact h3
end
def WS.new (X:WS)(o:Obj)(n:Nat)(so:Option IObj):WS :=
 { w:=X.w.alloc o,L:=λb=>if b=X.w.heap.size then n else X.L b,st:=λb=>if b=X.w.heap.size then so else X.st b,d:=X.d }
section
variable {C:Cx}{X:WS}
theorem yJw (w:World)(o:Obj){k:Nat}(h:k<w.heap.size):(w.alloc o).heap[k]?=w.heap[k]?:=by
 show (w.heap.push o)[k]?=_;rw[Array.getElem?_push,if_neg (by omega)]
theorem yQn (w:World)(o:Obj):(w.alloc o).heap[w.heap.size]?=some o:=by
 show (w.heap.push o)[w.heap.size]?=_;simp
theorem yGb {w w':World}{b:Nat}(h:w'.heap[b]?=w.heap[b]?)(i:Nat):w'.cell? ⟨b,i,none⟩=w.cell? ⟨b,i,none⟩:=by
 simp only[World.cell?,h]
theorem yWe {w w':World}{b:Nat}(h:w'.heap[b]?=w.heap[b]?):shq w' b=shq w b:=by
 simp only[shq,h]
theorem wXz {w:World}{b:Nat}{p:(TypeId×Nat)×Bool}(h:shq w b=some p):b<w.heap.size:=by
 simp only[shq] at h;cases hh:w.heap[b]? with
 | none=>simp[hh] at h
 | some o=>exact (Array.getElem?_eq_some_iff.1 hh).1
theorem Good.new_ext (h:Good C X)(o:Obj)(n:Nat)(so:Option IObj):Ext X (X.new o n so) where
 os:=rfl
 tape:=rfl
 output:=rfl
 size:=by simp[WS.new]
 lmono b:=by
  simp only[WS.new];split
  ·rename_i hb;rw[h.Lnew b (by omega)];exact Nat.zero_le _
  ·exact Nat.le_refl _
 cells b i hi:=by
  have hb:b<X.w.heap.size:=by
   rcases Nat.lt_or_ge b X.w.heap.size with hlt|hge
   ·exact hlt
   ·rw[h.Lnew b hge] at hi;omega
  exact yGb (yJw _ _ hb) i
 keep b hb _:=⟨yJw _ _ hb,by simp only[WS.new];rw[if_neg (by omega)]⟩
 dom b hb hs:=by simp only[WS.new];rw[if_neg (by omega)];exact hs
 shape b p hp:=(yWe (yJw _ _ (wXz hp))).trans hp
 d:=rfl
theorem Good.new (h:Good C X)(o:Obj)(n:Nat)(so:Option IObj)(hso:∀i,so=some i->ObjOk C (X.new o n so) X.w.heap.size i):Good C (X.new o n so) where
 ok b i hb:=by
  by_cases hbs:b=X.w.heap.size
  ·subst hbs;simp only[WS.new,if_true] at hb;exact hso i hb
  ·have hb':X.st b=some i:=by simpa only[WS.new,if_neg hbs] using hb
   have hlt:=h.lt hb';exact (h.ok b i hb').mono (yJw _ _ hlt) (by simp only[WS.new];rw[if_neg hbs]) (λ_ _ hv=>(h.new_ext o n so).vl hv)
 gl g x hg:=(h.new_ext o n so).v (h.gl g x hg)
 gsh g x hg:=by obtain⟨T,z,hT⟩:=h.gsh g x hg;exact⟨T,z,(h.new_ext o n so).shape _ _ hT⟩
 B:=by simp only[WS.new,World.size_alloc];exact Nat.le_succ_of_le h.B
 Lnew b hb:=by
  simp only[WS.new,World.size_alloc] at hb ⊢;rw[if_neg (by omega)];exact h.Lnew b (by omega)
 dr:=h.dr
theorem Inv.new {X0:WS}{N:Nat}{fr:Fr}{ds:List Dfd}{a:Act}(h:Inv C X0 N X fr ds a)(o:Obj)(n:Nat)(so:Option IObj)
  (hso:∀i,so=some i->ObjOk C (X.new o n so) X.w.heap.size i):Inv C X0 N (X.new o n so) fr ds a :=
 h.ext' (h.good.new_ext o n so) (h.good.new o n so hso)
def WS.drew (X:WS):WS:={ X with w:=X.w.drew }
theorem Good.drew (h:Good C X):Ext X X.drew/\Good C X.drew:=by
 have he:Ext X X.drew:=⟨rfl,rfl,rfl,Nat.le_refl _,λ_=>Nat.le_refl _,λ_ _ _=>rfl,λ_ _ _=>⟨rfl,rfl⟩,λ_ _ h=>h,λ_ _ h=>h,rfl⟩
 refine⟨he,⟨λb o hb=>(h.ok b o hb).mono rfl rfl (λ_ _ hv=>he.vl hv),λg x hg=>he.v (h.gl g x hg),h.B,h.Lnew,h.gsh,λhd=>Nat.le_succ_of_le (h.dr hd)⟩⟩
def WS.row (X:WS)(g:Nat)(cs':Array Value)(n:Nat)(so:Option IObj):WS :=
 { w:=X.w.setRow g cs',L:=λb=>if b=g then n else X.L b,st:=λb=>if b=g then so else X.st b,d:=X.d }
theorem yYe {w:World}{g:Nat}{c cs':Array Value}{T:TypeId}(hh:w.heap[g]?=some (.cells c T (0,0)))(hsz:cs'.size=c.size)(b:Nat):shq (w.setRow g cs') b=shq w b:=by
 by_cases hb:b=g
 ·subst hb;simp only[shq,setRow_heap w b c cs' T (0,0) hh,hh,hsz]
 ·exact yWe (setRow_other w g b cs' hb)
theorem zZj {g:Nat}{c cs':Array Value}{T:TypeId}{n:Nat}{so:Option IObj}(hh:X.w.heap[g]?=some (.cells c T (0,0)))(hsz:cs'.size=c.size)(hn:X.L g<=n)
  (hkeep:∀i,i<X.L g->cs'[i]?=c[i]?) {r:Value} {x:IV} (hv:C.v X r x):C.v (X.row g cs' n so) r x:=by
 refine V.mono hv (λb=>?_) (λb i hi=>?_) (λb p hp=>?_)
 ·simp only[WS.row];split
  ·rename_i hb;subst hb;exact hn
  ·exact Nat.le_refl _
 ·by_cases hb:b=g
  ·subst hb;have h1:=setRow_heap X.w b c cs' T (0,0) hh;simp only[WS.row,World.cell?,h1,hh,Option.isSome_none,Bool.false_eq_true,if_false];exact hkeep i hi
  ·exact yGb (setRow_other X.w g b cs' hb) i
 ·exact (yYe hh hsz b).trans hp
theorem Ext.row {X0:WS}{g:Nat}{c cs':Array Value}{T:TypeId}{n:Nat}{so:Option IObj}(he:Ext X0 X)(hh:X.w.heap[g]?=some (.cells c T (0,0)))(hsz:cs'.size=c.size)(hn:X.L g<=n)
  (hkeep:∀i,i<X.L g->cs'[i]?=c[i]?) (hown:X0.w.heap.size<=g\/X0.st g≠none):Ext X0 (X.row g cs' n so) where
 os:=he.os
 tape:=he.tape
 output:=he.output
 size:=by simp only[WS.row,setRow_size];exact he.size
 lmono b:=by
  simp only[WS.row];split
  ·rename_i hb;subst hb;exact Nat.le_trans (he.lmono _) hn
  ·exact he.lmono b
 cells b i hi:=by
  rw[<- he.cells b i hi];by_cases hb:b=g
  ·subst hb;have h1:=setRow_heap X.w b c cs' T (0,0) hh;simp only[WS.row,World.cell?,h1,hh,Option.isSome_none,Bool.false_eq_true,if_false];exact hkeep i (Nat.lt_of_lt_of_le hi (he.lmono b))
  ·exact yGb (setRow_other X.w g b cs' hb) i
 keep b hb hs:=by
  have hbg:b≠g:=by
   rintro rfl;rcases hown with h|h
   ·omega
   ·exact h hs
  simp only[WS.row];rw[if_neg hbg,setRow_other _ _ _ _ hbg];exact he.keep b hb hs
 dom b hb hs:=by
  have hbg:b≠g:=by
   rintro rfl;rcases hown with h|h
   ·omega
   ·exact h hs
  simp only[WS.row];rw[if_neg hbg];exact he.dom b hb hs
 shape b p hp:=(yYe hh hsz b).trans (he.shape b p hp)
 d:=he.d
theorem Good.row {g:Nat}{c cs':Array Value}{T:TypeId}{n:Nat}{so:Option IObj}(h:Good C X)(hh:X.w.heap[g]?=some (.cells c T (0,0)))(hsz:cs'.size=c.size)(hn:X.L g<=n)
  (hkeep:∀i,i<X.L g->cs'[i]?=c[i]?) (hso:∀i,so=some i->ObjOk C (X.row g cs' n so) g i):Good C (X.row g cs' n so) where
 ok b i hb:=by
  by_cases hbs:b=g
  ·subst hbs;simp only[WS.row,if_true] at hb;exact hso i hb
  ·have hb':X.st b=some i:=by simpa only[WS.row,if_neg hbs] using hb
   exact (h.ok b i hb').mono (setRow_other X.w g b cs' hbs) (by simp only[WS.row];rw[if_neg hbs])
    (λ_ _ hv=>⟨hv.1,λi r x hr hx=>zZj hh hsz hn hkeep (hv.2 i r x hr hx)⟩)
 gl g' x hg:=zZj hh hsz hn hkeep (h.gl g' x hg)
 gsh g' x hg:=by obtain⟨T',z,hT⟩:=h.gsh g' x hg;exact⟨T',z,(yYe hh hsz g').trans hT⟩
 B:=by simp only[WS.row,setRow_size];exact h.B
 Lnew b hb:=by
  simp only[WS.row,setRow_size] at hb ⊢;have hg:=(Array.getElem?_eq_some_iff.1 hh).1;rw[if_neg (by omega)];exact h.Lnew b hb
 dr hd:=by simp only[WS.row,setRow_drawn];exact h.dr hd
theorem Inv.row {X0:WS}{N:Nat}{fr:Fr}{ds:List Dfd}{a:Act}{g:Nat}{c cs':Array Value}{T:TypeId}{n:Nat}{so:Option IObj}(h:Inv C X0 N X fr ds a)
  (hh:X.w.heap[g]?=some (.cells c T (0,0))) (hsz:cs'.size=c.size) (hn:X.L g<=n) (hkeep:∀i,i<X.L g->cs'[i]?=c[i]?) (hst:X.st g≠none)
  (hso:∀i,so=some i->ObjOk C (X.row g cs' n so) g i):Inv C X0 N (X.row g cs' n so) fr ds a:=by
 have hown:X0.w.heap.size<=g\/X0.st g≠none:=by
  rcases Nat.lt_or_ge g X0.w.heap.size with hlt|hge
  ·exact .inr λh0=>hst (h.ext.dom g hlt h0)
  ·exact .inl hge
 refine⟨h.good.row hh hsz hn hkeep hso,h.ext.row hh hsz hn hkeep hown,⟨λt=>(h.fr.slot t).mono (λ_ _=>zZj hh hsz hn hkeep) ?_,h.fr.inj⟩,h.size,h.ds.mono (λ_ _=>zZj hh hsz hn hkeep) ?_⟩
 ·intro b cs _ _ hb _ _;have hbg:b≠g:=by rintro rfl;exact hst hb
  exact⟨setRow_other X.w g b cs' hbg,by simp only[WS.row];rw[if_neg hbg],by simp only[WS.row];rw[if_neg hbg];exact hb⟩
 ·intro r h1 h2 _;have hbg:r≠g:=by rintro rfl;exact hst h2
  exact⟨(setRow_other X.w g r cs' hbg).trans h1,by simp only[WS.row];rw[if_neg hbg];exact h2⟩
theorem Inv.own {X0:WS}{N:Nat}{fr:Fr}{ds:List Dfd}{a:Act}{t g:Nat}{cs new:List IV}{c cs':Array Value}{T:TypeId}(h:Inv C X0 N X fr ds a)
  (ht:fr t=.box cs) (hr:tm a.tmps t=.pointer (some ⟨g,0,none⟩)) (hh:X.w.heap[g]?=some (.cells c T (0,0))) (hsz:cs'.size=c.size)
  (hnew:C.vl X cs'.toList new):Inv C X0 N { X with w:=X.w.setRow g cs' } (fr.put t (.box new)) ds a:=by
 have hs:=h.fr.slot t;rw[ht] at hs;obtain⟨b,c1,T1,hr1,hh1,hvl,hst,hL,hb0⟩:=hs;rw[hr] at hr1;obtain rfl:g=b:=by injection hr1 with hr1;injection hr1 with hr1;injection hr1
 have hrow:X.row g cs' 0 none={ X with w:=X.w.setRow g cs' }:=by
  unfold WS.row;congr 1
  ·funext b;split
   ·rename_i hb;rw[hb,hL]
   ·rfl
  ·funext b;split
   ·rename_i hb;rw[hb,hst]
   ·rfl
 have hkeep:∀i,i<X.L g->cs'[i]?=c[i]?:=λi hi=>by rw[hL] at hi;omega
 have hn:X.L g<=0:=by omega
 rw[<- hrow];refine⟨h.good.row hh hsz hn hkeep (λi hi=>by cases hi),h.ext.row hh hsz hn hkeep (.inl hb0),⟨λs=>?_,λs s' cs1 cs2 h1 h2 he=>?_⟩,h.size,h.ds.mono (λ_ _=>zZj hh hsz hn hkeep) ?_⟩
 ·rw[Fr.put_apply];by_cases hst':s=t
  ·subst hst';rw[if_pos rfl];refine⟨g,cs',T,hr,setRow_heap X.w g c cs' T (0,0) hh,⟨hnew.1,λi r x hr hx=>zZj hh hsz hn hkeep (hnew.2 i r x hr hx)⟩,?_,?_,hb0⟩
   ·simp[WS.row]
   ·simp[WS.row]
  ·rw[if_neg hst'];refine (h.fr.slot s).mono (λ_ _=>zZj hh hsz hn hkeep) ?_;intro b cs2 hs2 hr2 hb _ _;have hbg:b≠g:=by
    rintro rfl;exact hst' (h.fr.inj s t cs2 cs hs2 ht (hr2.trans hr.symm))
   exact⟨setRow_other X.w g b cs' hbg,by simp only[WS.row];rw[if_neg hbg],by simp only[WS.row];rw[if_neg hbg];exact hb⟩
 ·have hx:∀s cs,(fr.put t (.box new)) s=.box cs->∃cs',fr s=.box cs':=λs cs hs=>by
   rw[Fr.put_apply] at hs;by_cases hst':s=t
   ·subst hst';exact⟨_,ht⟩
   ·rw[if_neg hst'] at hs;exact⟨_,hs⟩
  obtain⟨d1,h1'⟩:=hx _ _ h1;obtain⟨d2,h2'⟩:=hx _ _ h2;exact h.fr.inj s s' d1 d2 h1' h2' he
 ·intro r h1 h2 _;have hbg:r≠g:=by rintro rfl;rw[hh] at h1;cases h1
  exact⟨(setRow_other X.w g r cs' hbg).trans h1,by simp only[WS.row];rw[if_neg hbg];exact h2⟩
theorem AdOk.own {fr:Fr}{ts:Array Value}{ad:Ad}(h:AdOk fr ts ad){t:Nat}(new:List IV):AdOk (fr.put t (.box new)) ts ad:=by
 intro x s off hm;obtain⟨cs1,b,h1,h2,h3⟩:=h x s off hm;by_cases hst:s=t
 ·exact⟨new,b,by rw[Fr.put_apply,if_pos hst],h2,h3⟩
 ·exact⟨cs1,b,by rw[Fr.put_apply,if_neg hst];exact h1,h2,h3⟩
theorem Inv.box {X0:WS}{N:Nat}{fr:Fr}{ds:List Dfd}{a:Act}(h:Inv C X0 N X fr ds a){d:Nat}(hd:d<N)(c:Array Value)(T:TypeId){cs:List IV}(hv:C.vl X c.toList cs) :
  Inv C X0 N { X with w:=X.w.alloc (.cells c T) } (fr.put d (.box cs)) ds { a with tmps:=a.tmps.setIfInBounds d (.pointer (some ⟨X.w.heap.size,0,none⟩)) }:=by
 have hnone:X.st X.w.heap.size=none:=by
  cases hs:X.st X.w.heap.size with
  | none=>rfl
  | some o=>have:=h.good.lt hs;omega
 have hL0:X.L X.w.heap.size=0:=h.good.Lnew _ (Nat.le_refl _);have hX:X.new (.cells c T) 0 none={ X with w:=X.w.alloc (.cells c T) }:=by
  unfold WS.new;congr 1
  ·funext b;split
   ·rename_i hb;rw[hb,hL0]
   ·rfl
  ·funext b;split
   ·rename_i hb;rw[hb,hnone]
   ·rfl
 have he:=h.good.new_ext (.cells c T) 0 none;have h':=h.new (.cells c T) 0 none (λi hi=>by cases hi);rw[hX] at he h';have hsz:d<a.tmps.size:=by rw[h.size];exact hd
 refine⟨h'.good,h'.ext,⟨λt=>?_,λt t' cs1 cs2 h1 h2 heq=>?_⟩,by simp[h.size],h'.ds⟩
 ·rw[yY0,Fr.put_apply];by_cases hdt:t=d
  ·subst hdt;rw[if_pos rfl,if_pos ⟨rfl,hsz⟩];exact⟨X.w.heap.size,c,T,rfl,yQn _ _,he.vl hv,hnone,hL0,h.ext.size⟩
  ·rw[if_neg hdt,if_neg (λhh=>hdt hh.1.symm)];exact h'.fr.slot t
 ·rw[Fr.put_apply] at h1 h2;rw[yY0,yY0] at heq;have hfar:∀s cs',fr s=.box cs'->tm a.tmps s≠.pointer (some ⟨X.w.heap.size,0,none⟩):=λs cs' hs hp=>by
   have:=h.fr.slot s;rw[hs] at this;obtain⟨b,c',T',hr,hh,_⟩:=this;rw[hp] at hr;injection hr with hr;injection hr with hr;injection hr with hr;have:=(Array.getElem?_eq_some_iff.1 hh).1;omega
  by_cases e1:t=d
  ·by_cases e2:t'=d
   ·rw[e1,e2]
   ·rw[if_neg e2] at h2;rw[if_pos ⟨e1.symm,hsz⟩,if_neg (λhh=>e2 hh.1.symm)] at heq;exact absurd heq.symm (hfar _ _ h2)
  ·by_cases e2:t'=d
   ·rw[if_neg e1] at h1;rw[if_neg (λhh=>e1 hh.1.symm),if_pos ⟨e2.symm,hsz⟩] at heq;exact absurd heq (hfar _ _ h1)
   ·rw[if_neg e1] at h1;rw[if_neg e2] at h2;rw[if_neg (λhh=>e1 hh.1.symm),if_neg (λhh=>e2 hh.1.symm)] at heq;exact h.fr.inj t t' cs1 cs2 h1 h2 heq
theorem Inv.put {X0:WS}{N:Nat}{fr:Fr}{ds:List Dfd}{a:Act}(h:Inv C X0 N X fr ds a){d:Nat}(hd:d<N){v:Value}{x:IV}(hv:C.v X v x) :
  Inv C X0 N X (fr.put d (.iv x)) ds { a with tmps:=a.tmps.setIfInBounds d v } :=
 ⟨h.good,h.ext,h.fr.put (by rw[h.size];exact hd) hv,by simp[h.size],h.ds⟩
end
def Hold (_:Bool)(p:Prop):Prop:=p
def yQ6 {α:Type}(o:Option α)(f:α->Prop):Prop:=match o with|some x=>f x|none=>False
@[congr] theorem vQr {α:Type}{o o':Option α}(f:α->Prop)(h:o=o'):yQ6 o f=yQ6 o' f:=by rw[h]
@[go_sem] theorem yK7 {α:Type}(x:α)(f:α->Prop):yQ6 (some x) f=f x:=(rfl)
theorem yQ4 {α:Type}{o:Option α}{f:α->Prop}:yQ6 o f↔∃x,o=some x/\f x:=by
 cases o<;>simp[yQ6]
def chk (c q:Prop):Prop:=c/\q
@[congr] theorem vVf {c c':Prop}(q:Prop)(h:c=c'):chk c q=chk c' q:=by rw[h]
@[go_sem] theorem vUu (q:Prop):chk True q=q:=by simp[chk]
def giv (c q:Prop):Prop:=c->q
@[congr] theorem vKc {c c':Prop}(q:Prop)(h:c=c'):giv c q=giv c' q:=by rw[h]
inductive Lock.{u}{α:Sort u}(a:α):Type where
 | mk
def yGf (b:Bool)(p q:Prop)(_:Lock p)(_:Lock q):Prop:=(b=true->p)/\(b=false->q)
@[congr] theorem vQi {b b':Bool}(p q:Prop)(k:Lock p)(l:Lock q)(h:b=b'):yGf b p q k l=yGf b' p q k l:=by rw[h]
@[go_sem] theorem xY0 (p q:Prop)(k:Lock p)(l:Lock q):yGf true p q k l=p:=by simp[yGf]
@[go_sem] theorem xXb (p q:Prop)(k:Lock p)(l:Lock q):yGf false p q k l=q:=by simp[yGf]
def aggD:TypeDesc->Bool
 | .struct _=>true
 | .array _ _=>true
 | _=>false
def tyI (P:Program)(T:TypeId):Option (Bool×Nat) :=
 match P.underlying T,P.info? T with
 | some d,some i=>some (aggD d,i.size)
 | _,_=>none
def fldI (P:Program)(T:TypeId)(i:Nat):Option (Nat×Bool×Nat) :=
 match P.underlying T with
 | some (.struct fs)=>match fs[i]? with
  | some f=>match tyI P f.type with
   | some (a,n)=>if 0<n then some (f.offset,a,n) else none
   | none=>none
  | none=>none
 | _=>none
def arrI (P:Program)(T:TypeId):Option (Nat×Bool×Nat) :=
 match P.underlying T with
 | some (.array n e)=>(tyI P e).map λ(a,s)=>(n,a,s)
 | _=>none
def slI (P:Program)(T:TypeId):Option (TypeId×Bool×Nat×Nat) :=
 match P.underlying T with
 | some (.slice e)=>match tyI P e,P.info? e with
  | some (a,s),some i=>if i.zero.map (λz=>z.cells.size)=some s then some (e,a,s,i.bytes) else none
  | _,_=>none
 | _=>none
def zZe:Value->Option IV
 | .agg _=>none
 | .tuple _=>none
 | .slice none 0 0=>some (.sl ⟨true,.nil,0⟩ [])
 | .slice _ _ _=>none
 | .string s=>if s.size<=281474976710656 then some (.raw (.string s)) else none
 | .func f ⟨[]⟩ ⟨[]⟩=>some (.fn f [] [])
 | .func _ _ _=>none
 | v=>some (.raw v)
def allI {α β:Type}(f:α->Option β):List α->Option (List β)
 | []=>some []
 | a::l=>match f a,allI f l with
  | some b,some bs=>some (b::bs)
  | _,_=>none
def zJx:Value->Option IV
 | .agg cs=>(allI zZe cs.toList).map .agg
 | v=>zZe v
def yX3 (P:Program)(T:TypeId):Option IV:=((P.info? T).bind (·.zero)).bind zJx
def intK (P:Program)(T:TypeId):Option IntKind:=match P.underlying T with|some (.int k)=>some k|_=>none
def symT (P:Program)(k:TypeId):List Field->Bool
 | [f,g]=>P.keyType k&&P.keyTypeAt 2 k&&P.tiled 2 k&&f.name != "_" && g.name != "_" && f.offset == 0&&g.offset == 1&&P.cellsOf k == 2&&P.cellsOf f.type == 1&&P.cellsOf g.type == 1&&decide (0<P.types.size) &&
   (match P.underlying f.type with|some .string=>true|_=>false)&&(match P.underlying g.type with|some (.int .i64)=>true|_=>false)
 | _=>false
def sgT (P:Program)(k:TypeId):List Field->Bool
 | [f,g]=>P.keyType k&&P.keyTypeAt 2 k&&P.tiled 2 k&&f.name != "_" && g.name != "_" && f.offset == 0&&g.offset == 1&&P.cellsOf k == 2&&P.cellsOf f.type == 1&&P.cellsOf g.type == 1&&decide (0<P.types.size) &&
   (match P.underlying f.type with|some .bool=>true|_=>false)&&(match P.underlying g.type with|some (.int .u8)=>true|_=>false)
 | _=>false
def plT (P:Program)(k:TypeId):List Field->Bool
 | [f,g]=>P.keyType k&&P.keyTypeAt 2 k&&P.tiled 2 k&&f.name != "_" && g.name != "_" && f.offset == 0&&g.offset == 1&&P.cellsOf k == 2&&P.cellsOf f.type == 1&&P.cellsOf g.type == 1&&decide (0<P.types.size) &&
   (match P.underlying f.type with|some (.int .i64)=>true|_=>false)&&(match P.underlying g.type with|some .bool=>true|_=>false)
 | _=>false
def mapI (P:Program)(T:TypeId):Option (KeyK×IV) :=
 match P.underlying T with
 | some (.map k e)=>match P.underlying k,yX3 P e with
  | some .string,some z=>some (.str,z)
  | some (.int i),some z=>some (.int i,z)
  | some (.struct fs),some z=>if symT P k fs.toList=true then some (.sym,z) else if sgT P k fs.toList=true then some (.sg,z) else if plT P k fs.toList=true then some (.pl,z) else none
  | _,_=>none
 | _=>none
def entI (P:Program)(f:FuncId):Bool :=
 match P.funcs[f]? with
 | some fn=>fn.name != "runtime.NumGoroutine" && fn.body.isSome
 | none=>false
def ivOf:SV->Option IV
 | .iv .junk=>none
 | .iv x=>some x
 | .box _=>none
@[go_sem] theorem vYu (v:Value):ivOf (.iv (.raw v))=some (.raw v):=(rfl)
@[go_sem] theorem vYv (v:List IV):ivOf (.iv (.agg v))=some (.agg v):=(rfl)
@[go_sem] theorem vYt (v:List IV):ivOf (.iv (.tup v))=some (.tup v):=(rfl)
@[go_sem] theorem uWi (f:Fn)(a b:List IV):ivOf (.iv (.fn f a b))=some (.fn f a b):=(rfl)
@[go_sem] theorem uWh (t:Tag)(v:List IV):ivOf (.iv (.sl t v))=some (.sl t v):=(rfl)
@[go_sem] theorem vK3 (v:IV):ivOf (.iv (.cptr v))=some (.cptr v):=(rfl)
def IV.def_ (x:IV):Prop:=x≠.junk
theorem zX2 {x:IV}(h:x.def_):ivOf (.iv x)=some x:=by cases x<;>first|rfl|exact absurd rfl h
attribute [go_sem ↓] Fr.put_apply
def evV (gl:Nat->Option IV)(fr:Fr):Operand->Option IV
 | .tmp t=>ivOf (fr t)
 | .const v=>zJx v
 | .global g=>(gl g).map .cptr
 | .func f=>some (.fn (.func f) [] [])
@[go_sem ↓] theorem zQh (gl:Nat->Option IV)(fr:Fr)(t:Nat):evV gl fr (.tmp t)=ivOf (fr t):=(rfl)
@[go_sem ↓] theorem uY1 (gl:Nat->Option IV)(fr:Fr)(k:IntKind)(n:Int):evV gl fr (.const (.int k n))=some (.raw (.int k n)):=(rfl)
@[go_sem ↓] theorem vUq (gl:Nat->Option IV)(fr:Fr)(b:Bool):evV gl fr (.const (.bool b))=some (.raw (.bool b)):=(rfl)
@[go_sem ↓] theorem uWz (gl:Nat->Option IV)(fr:Fr):evV gl fr (.const (.slice none 0 0))=some (.sl ⟨true,.nil,0⟩ []):=(rfl)
@[go_sem ↓] theorem vZw (gl:Nat->Option IV)(fr:Fr)(s:ByteArray):evV gl fr (.const (.string s))=if s.size<=281474976710656 then some (.raw (.string s)) else none:=(rfl)
@[go_sem ↓] theorem uY0 (gl:Nat->Option IV)(fr:Fr)(m:Option Nat):evV gl fr (.const (.map m))=some (.raw (.map m)):=(rfl)
@[go_sem ↓] theorem vQ8 (gl:Nat->Option IV)(fr:Fr):evV gl fr (.const .nilFunc)=some (.raw .nilFunc):=(rfl)
@[go_sem ↓] theorem uY2 (gl:Nat->Option IV)(fr:Fr)(cs:Array Value):evV gl fr (.const (.agg cs))=(allI zZe cs.toList).map .agg:=(rfl)
@[go_sem ↓] theorem vUp (gl:Nat->Option IV)(fr:Fr)(f:FuncId):evV gl fr (.func f)=some (.fn (.func f) [] []):=(rfl)
def evL (gl:Nat->Option IV)(fr:Fr)(l:List Operand):Option (List IV):=allI (evV gl fr) l
@[go_sem ↓] theorem uY3 (gl:Nat->Option IV)(fr:Fr):evL gl fr []=some []:=(rfl)
def vQh {α:Type}:Option α->Option (List α)->Option (List α)
 | some a,some l=>some (a::l)
 | _,_=>none
@[go_sem] theorem xWz {α:Type}(a:α)(l:List α):vQh (some a) (some l)=some (a::l):=(rfl)
@[go_sem ↓] theorem xV9 (gl:Nat->Option IV)(fr:Fr)(x:Operand)(l:List Operand):evL gl fr (x::l)=vQh (evV gl fr x) (evL gl fr l):=by
 unfold evL;rw[allI];cases evV gl fr x<;>cases allI (evV gl fr) l<;>rfl
inductive Pl where
 | box (t off:Nat)
 | ptr (b off:Nat)
 | cp (x:IV)
def plOf (t:Nat):SV->Option Pl
 | .box _=>some (.box t 0)
 | .iv (.raw (.pointer (some ⟨b,off,none⟩)))=>some (.ptr b off)
 | .iv (.cptr x)=>some (.cp x)
 | _=>none
@[go_sem] theorem vYf (t:Nat)(cs:List IV):plOf t (.box cs)=some (.box t 0):=(rfl)
@[go_sem] theorem vYe (t b off:Nat):plOf t (.iv (.raw (.pointer (some ⟨b,off,none⟩))))=some (.ptr b off):=(rfl)
@[go_sem] theorem uVs (t:Nat)(x:IV):plOf t (.iv (.cptr x))=some (.cp x):=(rfl)
def plAd (t:Nat)(fr:Fr):Option (Nat×Nat)->Option Pl
 | some (s,off)=>some (.box s off)
 | none=>plOf t (fr t)
@[go_sem] theorem vJ6 (t:Nat)(fr:Fr)(s off:Nat):plAd t fr (some (s,off))=some (.box s off):=(rfl)
@[go_sem] theorem vJ7 (t:Nat)(fr:Fr):plAd t fr none=plOf t (fr t):=(rfl)
attribute [go_sem ↓] Ad.put_apply
@[go_sem] theorem Ad.none_apply (t:Nat):Ad.none_ t=none:=(rfl)
@[go_sem] theorem Ad.keep_none' (d:Nat):Ad.keep d none=none:=(rfl)
def evA (gl:Nat->Option IV)(ad:Ad)(fr:Fr):Operand->Option Pl
 | .tmp t=>plAd t fr (ad t)
 | .global g=>(gl g).map .cp
 | _=>none
@[go_sem ↓] theorem uY5 (gl:Nat->Option IV)(ad:Ad)(fr:Fr)(t:Nat):evA gl ad fr (.tmp t)=plAd t fr (ad t):=(rfl)
@[go_sem ↓] theorem vZx (gl:Nat->Option IV)(ad:Ad)(fr:Fr)(g:Nat):evA gl ad fr (.global g)=(gl g).map .cp:=(rfl)
def yK4 (ag:Bool)(n:Nat)(cs:List IV)(off:Nat):Option IV :=
 if ag then (if off+n<=cs.length then some (.agg ((cs.drop off).take n)) else none) else cs[off]?
@[go_sem] theorem vJc (n:Nat)(cs:List IV)(off:Nat):yK4 true n cs off=if off+n<=cs.length then some (.agg ((cs.drop off).take n)) else none:=(rfl)
@[go_sem] theorem vJb (n:Nat)(cs:List IV)(off:Nat):yK4 false n cs off=cs[off]?:=(rfl)
def yX8 (cs:List IV)(off:Nat)(l:List IV):List IV:=cs.take off++l++cs.drop (off+l.length)
def fits (ag:Bool)(n:Nat):IV->Bool
 | .agg cs=>ag&&cs.length == n&&cs.all IV.one
 | x=>!ag&&x.one&&n == 1
@[go_sem] theorem wKe (n:Nat)(cs:List IV):fits true n (.agg cs)=(cs.length == n&&cs.all IV.one):=by simp[fits]
@[go_sem] theorem vUj (n:Nat)(v:Value):fits false n (.raw v)=(IV.one (.raw v)&&n == 1):=by simp[fits]
@[go_sem] theorem uWy (n:Nat)(t:Tag)(v:List IV):fits false n (.sl t v)=(n == 1):=by simp[fits,IV.one]
@[go_sem] theorem vV9 (n:Nat)(x:IV):fits false n (.cptr x)=(n == 1):=by simp[fits,IV.one]
@[go_sem] theorem IV.one_int (k:IntKind)(n:Int):IV.one (.raw (.int k n))=true:=(rfl)
@[go_sem] theorem IV.one_bool (b:Bool):IV.one (.raw (.bool b))=true:=(rfl)
@[go_sem] theorem IV.one_string (s:ByteArray):IV.one (.raw (.string s))=true:=(rfl)
@[go_sem] theorem IV.one_map (a:Option Nat):IV.one (.raw (.map a))=true:=(rfl)
@[go_sem] theorem IV.one_nilFunc:IV.one (.raw .nilFunc)=true:=(rfl)
@[go_sem] theorem IV.one_sl (t:Tag)(v:List IV):IV.one (.sl t v)=true:=(rfl)
@[go_sem] theorem IV.one_fn (f:Fn)(a b:List IV):IV.one (.fn f a b)=true:=(rfl)
@[go_sem] theorem IV.one_cptr (x:IV):IV.one (.cptr x)=true:=(rfl)
@[go_sem] theorem IV.cells_agg (cs:List IV):IV.cells (.agg cs)=cs:=(rfl)
@[go_sem] theorem IV.cells_raw (v:Value):IV.cells (.raw v)=[.raw v]:=(rfl)
@[go_sem] theorem IV.cells_sl (t:Tag)(v:List IV):IV.cells (.sl t v)=[.sl t v]:=(rfl)
@[go_sem] theorem IV.cells_fn (f:Fn)(a b:List IV):IV.cells (.fn f a b)=[.fn f a b]:=(rfl)
@[go_sem] theorem IV.cells_cptr (x:IV):IV.cells (.cptr x)=[.cptr x]:=(rfl)
def ISt.put (st:ISt)(b:Nat)(o:Option IObj):ISt:=λc=>if c=b then o else st c
theorem ISt.put_apply (st:ISt)(b:Nat)(o:Option IObj)(c:Nat):st.put b o c=if c=b then o else st c:=rfl
@[go_sem] theorem ISt.put_same (st:ISt)(b:Nat)(o:Option IObj):st.put b o b=o:=if_pos rfl
def cmpI (op:BinOp)(x y:Int):Option Value :=
 match op with
 | .eql=>some (.bool (decide (x=y)))
 | .neq=>some (.bool (!decide (x=y)))
 | .lss=>some (.bool (decide (x<y)))
 | .leq=>some (.bool (decide (x<=y)))
 | .gtr=>some (.bool (decide (y<x)))
 | .geq=>some (.bool (decide (y<=x)))
 | _=>none
def binI (P:Program)(T:TypeId)(op:BinOp):Value->Value->Option Value
 | .int k x,.int k' y =>
  if op=.shl then (if 0<=y then some (.int k (k.wrap (x*2 ^ (min y.toNat k.bits)))) else none)
  else if op=.shr then (if 0<=y then some (.int k (x.fdiv (2 ^ (min y.toNat k.bits)))) else none)
  else if k=k' then
   match op with
   | .and=>some (.int k (k.wrap ((BitVec.ofInt k.bits x &&& BitVec.ofInt k.bits y).toNat:Int)))
   | .andNot=>some (.int k (k.wrap ((BitVec.ofInt k.bits x &&& ~~~(BitVec.ofInt k.bits y)).toNat:Int)))
   | .add=>some (.int k (k.wrap (x+y)))
   | .sub=>some (.int k (k.wrap (x-y)))
   | .mul=>some (.int k (k.wrap (x*y)))
   | .quo=>if y=0 then none else some (.int k (k.wrap (x.tdiv y)))
   | .rem=>if y=0 then none else some (.int k (x.tmod y))
   | op=>cmpI op x y
  else none
 | .string a,.string b =>
  match op with
  | .add=>if a.size+b.size<=281474976710656 then some (.string (a++b)) else none
  | .eql=>some (.bool (decide (a=b)))
  | .neq=>some (.bool (!decide (a=b)))
  | .lss=>some (.bool (Op.bytesLess a.data.toList b.data.toList))
  | .leq=>some (.bool (Op.bytesLess a.data.toList b.data.toList || decide (a=b)))
  | .gtr=>some (.bool (!(Op.bytesLess a.data.toList b.data.toList || decide (a=b))))
  | .geq=>some (.bool (!(Op.bytesLess a.data.toList b.data.toList)))
  | _=>none
 | .bool a,.bool b =>
  match P.underlying T with
  | some .bool =>
   match op with
   | .eql=>some (.bool (a == b))
   | .neq=>some (.bool (!(a == b)))
   | _=>none
  | _=>none
 | _,_=>none
section
variable (P:Program)(T:TypeId)(k:IntKind)(x y:Int)(a b:ByteArray)
@[go_sem] theorem uQb:binI P T .add (.int k x) (.int k y)=some (.int k (k.wrap (x+y))):=by simp[binI]
@[go_sem] theorem vUz:binI P T .sub (.int k x) (.int k y)=some (.int k (k.wrap (x-y))):=by simp[binI]
@[go_sem] theorem uQ4:binI P T .mul (.int k x) (.int k y)=some (.int k (k.wrap (x*y))):=by simp[binI]
@[go_sem] theorem uQ0 (k':IntKind):binI P T .shr (.int k x) (.int k' y)=if 0<=y then some (.int k (x.fdiv (2 ^ (min y.toNat k.bits)))) else none:=by simp[binI]
@[go_sem] theorem uQa:binI P T .and (.int k x) (.int k y)=some (.int k (k.wrap ((BitVec.ofInt k.bits x &&& BitVec.ofInt k.bits y).toNat:Int))):=by simp[binI]
@[go_sem] theorem uQ2:binI P T .quo (.int k x) (.int k y)=if y=0 then none else some (.int k (k.wrap (x.tdiv y))):=by simp[binI]
@[go_sem] theorem uQ1:binI P T .rem (.int k x) (.int k y)=if y=0 then none else some (.int k (x.tmod y)):=by simp[binI]
@[go_sem] theorem uQ9:binI P T .eql (.int k x) (.int k y)=some (.bool (decide (x=y))):=by simp[binI,cmpI]
@[go_sem] theorem uQ3:binI P T .neq (.int k x) (.int k y)=some (.bool (!decide (x=y))):=by simp[binI,cmpI]
@[go_sem] theorem uQ5:binI P T .lss (.int k x) (.int k y)=some (.bool (decide (x<y))):=by simp[binI,cmpI]
@[go_sem] theorem uQ6:binI P T .leq (.int k x) (.int k y)=some (.bool (decide (x<=y))):=by simp[binI,cmpI]
@[go_sem] theorem uQ7:binI P T .gtr (.int k x) (.int k y)=some (.bool (decide (y<x))):=by simp[binI,cmpI]
@[go_sem] theorem uQ8:binI P T .geq (.int k x) (.int k y)=some (.bool (decide (y<=x))):=by simp[binI,cmpI]
@[go_sem] theorem vVn:binI P T .add (.string a) (.string b)=if a.size+b.size<=281474976710656 then some (.string (a++b)) else none:=(rfl)
@[go_sem] theorem vVm:binI P T .eql (.string a) (.string b)=some (.bool (decide (a=b))):=(rfl)
@[go_sem] theorem vVj:binI P T .neq (.string a) (.string b)=some (.bool (!decide (a=b))):=(rfl)
@[go_sem] theorem vVk:binI P T .lss (.string a) (.string b)=some (.bool (Op.bytesLess a.data.toList b.data.toList)):=(rfl)
end
def zJl (P:Program)(T:TypeId):Bool:=match P.underlying T with|some .bool=>true|_=>false
@[go_sem] theorem vVp (P:Program)(T:TypeId)(h:zJl P T=true)(a b:Bool):binI P T .eql (.bool a) (.bool b)=some (.bool (a == b)):=by
 unfold zJl at h;unfold binI;split at h<;>simp_all
@[go_sem] theorem vVo (P:Program)(T:TypeId)(h:zJl P T=true)(a b:Bool):binI P T .neq (.bool a) (.bool b)=some (.bool (!(a == b))):=by
 unfold zJl at h;unfold binI;split at h<;>simp_all
def zQ0:IV->Option Bool
 | .sl ⟨_,.nil,_⟩ _=>some true
 | .sl ⟨_,.app _,_⟩ _=>some false
 | .sl _ (_::_)=>some false
 | _=>none
def yVj (P:Program)(T:TypeId):Bool:=match P.underlying T with|some (.slice _)=>true|_=>false
def binV (P:Program)(T:TypeId)(op:BinOp):IV->IV->Option IV
 | .raw x,.raw y=>(binI P T op x y).map .raw
 | .sl t xs,.sl ⟨_,.nil,_⟩ _=>if yVj P T then (match op with
   | .eql=>(zQ0 (.sl t xs)).map λb=>.raw (.bool b)
   | .neq=>(zQ0 (.sl t xs)).map λb=>.raw (.bool !b)
   | _=>none) else none
 | _,_=>none
@[go_sem] theorem vUy (P:Program)(T:TypeId)(op:BinOp)(x y:Value):binV P T op (.raw x) (.raw y)=(binI P T op x y).map .raw:=(rfl)
def unI (op:UnOp):IV->Option IV
 | .raw (.bool b)=>match op with
  | .not=>some (.raw (.bool !b))
  | _=>none
 | .raw (.int k n)=>match op with
  | .neg=>some (.raw (.int k (k.wrap (0-n))))
  | _=>none
 | _=>none
@[go_sem] theorem uZ5 (b:Bool):unI .not (.raw (.bool b))=some (.raw (.bool !b)):=(rfl)
def xQe (P:Program)(T:TypeId):Bool:=match P.underlying T with
 | some (.slice e)=>(match P.underlying e with|some (.int .u8)=>true|_=>false)
 | _=>false
def strT (P:Program)(T:TypeId):Bool:=match P.underlying T with|some .string=>true|_=>false
def yY5:List IV->Option (List UInt8)
 | []=>some []
 | .raw (.int .u8 n)::l=>if 0<=n/\n<256 then (yY5 l).map (UInt8.ofNat n.toNat::·) else none
 | _=>none
@[go_sem] theorem zVy:yY5 []=some []:=(rfl)
@[go_sem] theorem zK2 (b:UInt8)(l:List IV):yY5 (.raw (.int .u8 (b.toNat:Int))::l)=(yY5 l).map (b::·):=by
 have:=b.toNat_lt;simp only[yY5];rw[if_pos ⟨by omega,by omega⟩];simp
def xQ7 (P:Program)(src dst:TypeId):IV->Option IV
 | .sl _ xs=>if xQe P src=true/\strT P dst=true then (yY5 xs).bind λl=>if l=[] then none else some (.raw (.string ⟨l.toArray⟩)) else none
 | .raw (.int _ n)=>match P.underlying src,P.underlying dst with
  | some (.int _),some (.int k)=>some (.raw (.int k (k.wrap n)))
  | _,_=>none
 | _=>none
@[go_sem] theorem zJw (P:Program)(src dst:TypeId){k k':IntKind}(h:intK P src=some k)(h':intK P dst=some k')(j:IntKind)(n:Int) :
  xQ7 P src dst (.raw (.int j n))=some (.raw (.int k' (k'.wrap n))):=by
 unfold intK at h h';unfold xQ7;split at h<;>split at h'<;>simp_all
@[go_sem] theorem vUt (P:Program)(src dst:TypeId)(t:Tag)(xs:List IV)(h:xQe P src=true)(h':strT P dst=true) :
  xQ7 P src dst (.sl t xs)=(yY5 xs).bind λl=>if l=[] then none else some (.raw (.string ⟨l.toArray⟩)):=by simp[xQ7,h,h']
def xYx:List Value->List Value->Bool
 | [.string a,.int _ n],[.string b,.int _ m]=>decide (a=b)&&decide (n=m)
 | [.bool a,.int _ n],[.bool b,.int _ m]=>decide (a=b)&&decide (n=m)
 | [.int _ n,.bool a],[.int _ m,.bool b]=>decide (n=m)&&decide (a=b)
 | _,_=>false
def yKs:Value->Value->Bool
 | .string a,.string b=>decide (a=b)
 | .int _ a,.int _ b=>decide (a=b)
 | .agg a,.agg b=>xYx a.toList b.toList
 | _,_=>false
def keyI:Value->Option IV
 | .string s=>if s.size<=281474976710656 then some (.raw (.string s)) else none
 | .int k n=>some (.raw (.int k n))
 | .agg cs=>match cs.toList with
  | [.string s,.int k n]=>if s.size<=281474976710656 then some (.agg [.raw (.string s),.raw (.int k n)]) else none
  | [.bool b,.int k n]=>some (.agg [.raw (.bool b),.raw (.int k n)])
  | [.int k n,.bool b]=>some (.agg [.raw (.int k n),.raw (.bool b)])
  | _=>none
 | _=>none
def yY9 (ents:Array MapEntry)(seen:Array Nat):List MapEntry:=ents.toList.filter λe=>!seen.contains e.born
def wQ7 (ents:Array MapEntry)(seen:Array Nat):Option IV:=seen.back?.bind λb=>(ents.toList.find? λe=>e.born == b).bind λe=>keyI e.key
def valI:Value->IV
 | .int k n=>.raw (.int k n)
 | _=>.junk
def xWp (ents:Array MapEntry)(seen:Array Nat):IV:=match seen.back?.bind λb=>ents.toList.find? λe=>e.born == b with
 | some e=>valI e.val
 | none=>.junk
def yXl (k:Value):List (Value×IV)->Option IV
 | []=>none
 | (x,v)::l=>if yKs k x then some v else yXl k l
def updI (k:Value)(v:IV):List (Value×IV)->List (Value×IV)
 | []=>[(k,v)]
 | (x,u)::l=>if yKs k x then (k,v)::l else (x,u)::updI k v l
end Go.Iv
theorem dEf {p:Prop} [Decidable p](h:¬p):decide p=false:=decide_eq_false h
theorem dEt {p:Prop} [Decidable p](h:p):decide p=true:=decide_eq_true h
theorem iNn (n:Nat):(0:Int)<=(n:Int):=Int.natCast_nonneg n
theorem lMg {α:Type _}{l:List α}{i:Nat}{a:α}(h:l[i]?=some a):a∈l:=List.mem_of_getElem? h
theorem lTl {α:Type _}{l:List α}:l.take l.length=l:=List.take_length
theorem bAt (a b:Bool):((a&&b)=true)=(a=true/\b=true):=Bool.and_eq_true a b
theorem nLi (n:Nat):¬n<n:=Nat.lt_irrefl n
theorem lLa {α:Type _}{l m:List α}:(l++m).length=l.length+m.length:=List.length_append
theorem lGs {α:Type _}{l:List α}{i:Nat}{a:α}(h:l[i]?=some a):∃h:i<l.length,l[i]=a:=List.getElem?_eq_some_iff.1 h
theorem nTf:(¬True)=False:=not_true_eq_false
theorem nFt:(¬False)=True:=not_false_eq_true
theorem bFt:(false=true)=False:=Bool.false_eq_true
theorem dTe {p:Prop} [Decidable p]:(decide p=true)=p:=decide_eq_true_eq
theorem lSm {α:Type _} [SizeOf α]{a:α}{l:List α}(h:a∈l):sizeOf a<sizeOf l:=List.sizeOf_lt_of_mem h
