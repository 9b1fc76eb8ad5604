/- Walks: what is lent reads as a value; Ke -/
import Derived.Test.YtjbhofcbleepiaaGreatDoorQA
import Derived.Test.YtjbhofcbleepiaaGreatDoorQB
import Derived.Test.YtjbhofcbleepiaaGreatDoorKV
import Derived.Test.YtjbhofcbleepiaaGreatDoorJW
import Derived.Lib.Bytealg
import Derived.Laws.Externs
import Derived.WalkKit
import Derived.Shelf.Abstract
import Derived.Shelf.SlSortCmp.NoneTotal
import Derived.Ground.SlsfProg
import Derived.Test.YtjbhofcbleepiaaGreatDoorProg
import Derived.Test.YtjbhofcbleepiaaGreatDoorJI
set_option linter.all false
namespace Go.Proofs.Tryz
open Go Go.Iv
set_option maxRecDepth 4000
variable (gl:Nat→Option IV)
def OIc (T:ISt)(cs ds:List IV):Prop:=cs.length=ds.length∧∀ (i:Nat) (r c:IV),cs[i]?=some r→ds[i]?=some c→OI T r c
theorem OIc.nil (T:ISt):OIc T [] []:=⟨rfl,fun i r c h=>by simp at h⟩
theorem OIc.cons {T:ISt}{r c:IV}{cs ds:List IV}(h:OI T r c)(k:OIc T cs ds):OIc T (r::cs) (c::ds) :=
 ⟨by simp[k.1],fun i a b ha hb=>by
  cases i with
  | zero=>cases ha; cases hb; exact h
  | succ i=>exact k.2 i a b (by simpa using ha) (by simpa using hb)⟩
theorem OIc.append {T:ISt}{cs ds:List IV}:∀ {us bs:List IV},OIc T us bs→OIc T cs ds→OIc T (us++cs) (bs++ds)
 | [],[],_,k=>k
 | [],_::_,h,_=>by cases h.1
 | _::_,[],h,_=>by cases h.1
 | a::us,b::bs,h,k=>OIc.cons (h.2 0 a b rfl rfl) (OIc.append ⟨by have:=h.1; simpa using this,fun i r c hr hc=>h.2 (i+1) r c (by simpa using hr) (by simpa using hc)⟩ k)
theorem OIc.front {T:ISt}{cs ds rest:List IV}(h:OIc T cs ds)(i:Nat)(r c:IV)(hr:(cs++rest)[i]?=some r)(hc:ds[i]?=some c):OI T r c:=by
 have hi:=(lGs hc).1
 rw[List.getElem?_append_left (by rw[h.1]; exact hi)] at hr
 exact h.2 i r c hr hc
theorem OIc.agg {T:ISt}{cs ds:List IV}(h:OIc T cs ds):OI T (.agg cs) (.agg ds):=.agg _ _ h.1 h.2
theorem zJp:∀ {l:List Tm}{xs:List IV},IsTms l xs→∀ x∈xs,x.cells.length=3
 | [],xs,h,x,hx=>by simp only[IsTms] at h; subst h; cases hx
 | a::l,xs,h,x,hx=>by
  obtain⟨y,ys,rfl,hy,h⟩:=h
  rcases List.mem_cons.1 hx with rfl | hx
  ·obtain⟨_,_,_,_,rfl⟩:=hy.agg; rfl
  ·exact zJp h x hx
theorem _root_.Go.Iv.IsSq.aged {s:Sq}{x:IV}(h:IsSq s x):IsSq s (age x):=by
 obtain⟨t1,x1,t2,x2,rfl,e1,i1,e2,i2⟩:=h
 exact⟨_,_,_,_,by simp only[age,ages],zQl e1,i1.aged,zQl e2,i2.aged⟩
mutual
theorem LTt.oi {T:ISt}:∀ {t:Tm} {c:List IV},LTt T t c→t.size≤1099511627776→∃ x,IsTm t x∧OIc T c x.cells
 | .mk v n ws,c,h,hs=>by
  simp only[LTt] at h
  obtain⟨a,cs,rfl,hb,hc⟩:=h
  simp only[Tm.size] at hs
  obtain⟨xs,hxs,ho⟩:=LTc.oi hc (by omega)
  have hl:=hxs.len
  have hsz:=yZl ws
  refine⟨.agg [.raw (.bool v),.raw (.string n),.sl ⟨true,.app a,3⟩ xs],⟨_,_,rfl,.inr rfl,hxs⟩,.cons (.refl _) (.cons (.refl _) (.cons ?_ (.nil _)))⟩
  rw[← hl]
  exact .sl a _ _ xs _ rfl (by omega) (by omega) (zJp hxs) hb (by rw[lLa,hc.len,yY5]; simp only; omega) (ho.front (rest:=mksT 12))
theorem LTc.oi {T:ISt}:∀ {l:List Tm} {c:List IV},LTc T l c→yQ8 l≤1099511627776→∃ xs,IsTms l xs∧OIc T c (xs.flatMap IV.cells)
 | [],c,h,_=>by
  simp only[LTc] at h; subst h
  exact⟨[],rfl,.nil _⟩
 | t::l,c,h,hs=>by
  simp only[LTc] at h
  obtain⟨a,b,rfl,h2,h3⟩:=h
  simp only[yQ8] at hs
  obtain⟨x,hx,hxo⟩:=LTt.oi h2 (by omega)
  obtain⟨xs,hxs,hxso⟩:=LTc.oi h3 (by omega)
  exact⟨x::xs,⟨x,xs,rfl,hx,hxs⟩,by rw[List.flatMap_cons]; exact OIc.append hxo hxso⟩
end
mutual
theorem LFf.oi {T:ISt}:∀ {t:Fm} {c:List IV},LFf T t c→t.size≤1099511627776→∃ x,IsFm t x∧OIc T c x.cells
 | .mk o n ws sub,c,h,hs=>by
  simp only[LFf] at h
  obtain⟨a,cs,b,ds,ho,rfl,hb,hc,hd,he⟩:=h
  simp only[Fm.size] at hs
  obtain⟨xs,hxs,hox⟩:=LTc.oi hc (by omega)
  obtain⟨ys,hys,hoy⟩:=LFc.oi he (by omega)
  have hl:=hxs.len
  have hm:=hys.len
  have hsz:=yZl ws
  have hsz2:=yZ9 sub
  refine⟨.agg [.raw (.int .u8 o),.raw (.string n),.sl ⟨true,.app a,3⟩ xs,.sl ⟨true,.app b,4⟩ ys],⟨_,_,_,_,rfl,ho,.inr rfl,hxs,.inr rfl,hys⟩,.cons (.refl _) (.cons (.refl _) (.cons ?_ (.cons ?_ (.nil _))))⟩
  ·rw[← hl]
   exact .sl a _ _ xs _ rfl (by omega) (by omega) (zJp hxs) hb (by rw[lLa,hc.len,yY5]; simp only; omega) (hox.front (rest:=mksT 12))
  ·rw[← hm]
   exact .sl b _ _ ys _ rfl (by omega) (by omega) (fun y hy=>xKd (yXc hys y hy)) hd (by rw[lLa,he.len,yY6]; simp only; omega) (hoy.front (rest:=mksF 12))
theorem LFc.oi {T:ISt}:∀ {l:List Fm} {c:List IV},LFc T l c→yQ7 l≤1099511627776→∃ xs,IsFms l xs∧OIc T c (xs.flatMap IV.cells)
 | [],c,h,_=>by
  simp only[LFc] at h; subst h
  exact⟨[],rfl,.nil _⟩
 | t::l,c,h,hs=>by
  simp only[LFc] at h
  obtain⟨a,b,rfl,h2,h3⟩:=h
  simp only[yQ7] at hs
  obtain⟨x,hx,hxo⟩:=LFf.oi h2 (by omega)
  obtain⟨xs,hxs,hxso⟩:=LFc.oi h3 (by omega)
  exact⟨x::xs,⟨x,xs,rfl,hx,hxs⟩,by rw[List.flatMap_cons]; exact OIc.append hxo hxso⟩
end
theorem LTt.agg {T:ISt}{t:Tm}{c:List IV}(h:LTt T t c)(hs:t.size≤1099511627776):∃ x,IsTm t x∧OI T (.agg c) x:=by
 obtain⟨x,hx,ho⟩:=h.oi hs
 obtain⟨_,_,_,_,rfl⟩:=hx.agg
 exact⟨_,hx,ho.agg⟩
theorem LFf.agg {T:ISt}{t:Fm}{c:List IV}(h:LFf T t c)(hs:t.size≤1099511627776):∃ x,IsFm t x∧OI T (.agg c) x:=by
 obtain⟨x,hx,ho⟩:=h.oi hs
 obtain⟨_,_,_,_,_,_,rfl⟩:=hx.agg
 exact⟨_,hx,ho.agg⟩
theorem LFc.sl {T:ISt}{l:List Fm}{c:List IV}{a:Nat}(h:LFc T l c)(hb:T a=some (.box (c++mksF 12)))(hs:yQ7 l≤1099511627776):∃ xs,IsFms l xs∧OI T (.raw (.slice (some ⟨a,0,none⟩) l.length (l.length+12))) (.sl ⟨true,.app a,4⟩ xs):=by
 obtain⟨ys,hys,hoy⟩:=h.oi hs
 have hm:=hys.len
 have hsz2:=yZ9 l
 refine⟨ys,hys,?_⟩
 rw[← hm]
 exact .sl a _ _ ys _ rfl (by omega) (by omega) (fun y hy=>xKd (yXc hys y hy)) hb (by rw[lLa,h.len,yY6]; simp only; omega) (hoy.front (rest:=mksF 12))
theorem LSq.oi {T:ISt}{s:Sq}{x:IV}(h:LSq T s x)(hl:yQ7 s.l≤1099511627776)(hr:yQ7 s.r≤1099511627776):∃ y,IsSq s y∧OI T x y:=by
 obtain⟨a,cs,b,ds,rfl,h2,h3,h4,h5⟩:=h
 obtain⟨xs,hxs,ho⟩:=h3.sl h2 hl
 obtain⟨ys,hys,ho'⟩:=h5.sl h4 hr
 exact⟨.agg [.sl ⟨true,.app a,4⟩ xs,.sl ⟨true,.app b,4⟩ ys],⟨_,_,_,_,rfl,.inr rfl,hxs,.inr rfl,hys⟩,(OIc.cons ho (.cons ho' (.nil _))).agg⟩
def tmPF:FuncId→List IV→Option IV
 | g,[.raw (.int .i64 k),.raw (.int .i64 i)]=>if g=144∧0≤k∧0≤i then some (.agg (mkC k.toNat i.toNat)) else none
 | _,_=>none
def fmPF:FuncId→List IV→Option IV
 | g,[.raw (.int .i64 k),.raw (.int .i64 i)]=>if g=127∧0≤k∧0≤i then some (.agg (mkD k.toNat i.toNat)) else none
 | _,_=>none
theorem wG8:∀ g us v,tmPF g us=some v→entI prog g=true∧∀ st,ICall prog gl g us st (fun r st'=>r=v∧st'=st):=by
 intro g us v h
 unfold tmPF at h
 split at h
 ·rename_i k i
  split at h
  ·rename_i hc
   obtain⟨rfl,hk,hi⟩:=hc
   cases h
   refine⟨by simp only[go_sem],fun st=>?_⟩
   have:=zZr gl k.toNat i.toNat st
   rwa [Int.toNat_of_nonneg hk,Int.toNat_of_nonneg hi] at this
  ·cases h
 ·cases h
theorem wUt:∀ g us v,fmPF g us=some v→entI prog g=true∧∀ st,ICall prog gl g us st (fun r st'=>r=v∧st'=st):=by
 intro g us v h
 unfold fmPF at h
 split at h
 ·rename_i k i
  split at h
  ·rename_i hc
   obtain⟨rfl,hk,hi⟩:=hc
   cases h
   refine⟨by simp only[go_sem],fun st=>?_⟩
   have:=yGq gl k.toNat i.toNat st
   rwa [Int.toNat_of_nonneg hk,Int.toNat_of_nonneg hi] at this
  ·cases h
 ·cases h
theorem vXb (j:Nat):tmPF 144 [.raw (.int .i64 1),.raw (.int .i64 (j:Int))]=some (.agg (mkC 1 j)):=by simp[tmPF]
theorem vJt (j:Nat):fmPF 127 [.raw (.int .i64 1),.raw (.int .i64 (j:Int))]=some (.agg (mkD 1 j)):=by simp[fmPF]
theorem LTc.get {T:ISt}:∀ {l:List Tm} {cs rest:List IV} {k:Nat} {t:Tm},LTc T l cs→l[k]?=some t→∃ c,LTt T t c∧k*3+3≤(cs++rest).length∧((cs++rest).drop (k*3)).take 3=c
 | [],_,_,k,_,_,h=>by simp at h
 | a::l,cs,rest,0,t,h,hk=>by
  simp only[LTc] at h
  obtain⟨c,d,rfl,h2,h3⟩:=h
  cases hk
  refine⟨c,h2,by simp only[lLa,h2.len]; omega,?_⟩
  rw[Nat.zero_mul,List.drop_zero,List.append_assoc,List.take_left' h2.len]
 | a::l,cs,rest,k+1,t,h,hk=>by
  simp only[LTc] at h
  obtain⟨c,d,rfl,h2,h3⟩:=h
  obtain⟨e,he1,he2,he3⟩:=LTc.get (rest:=rest) h3 (by simpa using hk)
  have hc:=h2.len
  refine⟨e,he1,by simp only[lLa] at he2 ⊢; omega,?_⟩
  rw[List.append_assoc,show (k+1)*3=c.length+k*3 by omega,← List.drop_drop,List.drop_left]
  exact he3
theorem LFc.get {T:ISt}:∀ {l:List Fm} {cs rest:List IV} {k:Nat} {t:Fm},LFc T l cs→l[k]?=some t→∃ c,LFf T t c∧k*4+4≤(cs++rest).length∧((cs++rest).drop (k*4)).take 4=c
 | [],_,_,k,_,_,h=>by simp at h
 | a::l,cs,rest,0,t,h,hk=>by
  simp only[LFc] at h
  obtain⟨c,d,rfl,h2,h3⟩:=h
  cases hk
  refine⟨c,h2,by simp only[lLa,h2.len]; omega,?_⟩
  rw[Nat.zero_mul,List.drop_zero,List.append_assoc,List.take_left' h2.len]
 | a::l,cs,rest,k+1,t,h,hk=>by
  simp only[LFc] at h
  obtain⟨c,d,rfl,h2,h3⟩:=h
  obtain⟨e,he1,he2,he3⟩:=LFc.get (rest:=rest) h3 (by simpa using hk)
  have hc:=h2.len
  refine⟨e,he1,by simp only[lLa] at he2 ⊢; omega,?_⟩
  rw[List.append_assoc,show (k+1)*4=c.length+k*4 by omega,← List.drop_drop,List.drop_left]
  exact he3
theorem xW2:∀ {m j:Nat},j<m→((mksT m).drop (j*3)).take 3=mkC 1 j
 | m+1,j,h=>by
  simp only[mksT]
  by_cases hj:j=m
  ·subst hj
   rw[List.drop_left' (yY5 j)]; rfl
  ·have:=xW2 (show j<m by omega)
   have hl:=yY5 m
   rw[List.drop_append_of_le_length (by omega),List.take_append_of_le_length (by rw[List.length_drop]; omega)]
   exact this
theorem xW3:∀ {m j:Nat},j<m→((mksF m).drop (j*4)).take 4=mkD 1 j
 | m+1,j,h=>by
  simp only[mksF]
  by_cases hj:j=m
  ·subst hj
   rw[List.drop_left' (yY6 j)]; rfl
  ·have:=xW3 (show j<m by omega)
   have hl:=yY6 m
   rw[List.drop_append_of_le_length (by omega),List.take_append_of_le_length (by rw[List.length_drop]; omega)]
   exact this
theorem wUe (k j:Nat):IsTm (.mk false (mkT k j) []) (.agg (mkC k j)):=⟨_,_,rfl,.inl rfl,rfl⟩
theorem wUf (k j:Nat):IsFm (.mk 0 (mkT k j) [] []) (.agg (mkD k j)):=⟨_,_,_,_,rfl,by omega,.inl rfl,rfl,.inl rfl,rfl⟩
theorem wZk {st:ISt}(h:flatSt st):∀ b o,st b=some o→(∃ cs,o=.box cs)∨wXd o:=fun b o hb=>.inr (h b o hb)
theorem vJd {st:ISt}{x x0 y:IV}(ho:OI st x x0):Lents st [x,y] [age x0,y]:=⟨_,_,rfl,.inr ⟨x0,ho,rfl⟩,_,_,rfl,.inl rfl,rfl⟩
theorem zU2 {f:FuncId}{x x0 y:IV}{b:Bool}{st T:ISt}(hf:flatSt st)(hT:subSt T st)(ho:OI T x x0)(h:∀ st,ICall prog gl f [age x0,y] st (fun r st'=>r=.raw (.bool b)∧st'=st)) :
  ICall prog gl f [x,y] st (fun r st'=>r=.raw (.bool b)∧st'=st) :=
 (ICall.lent (K:=fun r=>r=.raw (.bool b)) (wZk hf) (vJd (ho.mono fun _ _ h=>hT _ _ h)) ((h (yWg st)).mono fun r st' k=>⟨k.2,by rw[k.1]; trivial,k.1⟩)).mono fun r st' k=>⟨k.2,k.1⟩
def KTP (us:List Tm):Prop:=∀ (tg:Tag) (xs:List IV) (_:okEs tg 3) (_:IsTms us xs) (_:yQ8 us≤1099511627776) (a:Nat) (cs:List IV) (st:ISt) (_:flatSt st) (_:st a=some (.box (cs++mksT 12))) (_:LTc st us cs),
 ICall prog gl 107 [.raw (.slice (some ⟨a,0,none⟩) us.length (us.length+12)),.sl tg xs] st (fun r st'=>r=.raw (.bool true)∧st'=st)
def KFP (us:List Fm):Prop:=∀ (tg:Tag) (xs:List IV) (_:okEs tg 4) (_:IsFms us xs) (_:yQ7 us≤1099511627776) (a:Nat) (cs:List IV) (st:ISt) (_:flatSt st) (_:st a=some (.box (cs++mksF 12))) (_:LFc st us cs),
 ICall prog gl 90 [.raw (.slice (some ⟨a,0,none⟩) us.length (us.length+12)),.sl tg xs] st (fun r st'=>r=.raw (.bool true)∧st'=st)
theorem zZf (v:Bool)(n:ByteArray)(us:List Tm)(IH:KTP gl us)(x:IV)(hx:IsTm (.mk v n us) x)(hs:(Tm.mk v n us).size≤1099511627776)(c:List IV)(st:ISt)(hf:flatSt st)(hc:LTt st (.mk v n us) c) :
  ICall prog gl 55 [.agg c,x] st (fun r st'=>r=.raw (.bool true)∧st'=st):=by
 obtain⟨y,hy,ho⟩:=hc.agg hs
 have h1:=zU2 gl hf (subSt.refl _) ho (fun st=>zKi gl _ _ _ _ hy.aged hx st)
 rw[yQn.2 rfl] at h1
 simp only[LTt] at hc
 obtain⟨a,cs,rfl,hb,hc⟩:=hc
 obtain⟨tx,cx,rfl,htx,hcx⟩:=hx.mk
 simp only[Tm.size] at hs
 have h2:=IH tx cx htx hcx (by omega) a cs st hf hb hc
 refine iI func55 rfl rfl (by kernel_rfl) ?_
 simp(config:=zzC)only[go_sem,fits]
 refine h1.mono ?_
 rintro _ st ⟨rfl,rfl⟩
 simp(config:=zzC)only[go_sem,fits]
 refine h2.mono ?_
 rintro _ st ⟨rfl,rfl⟩
 simp(config:=zzC)only[go_sem,fits]
 exact yQ0 ⟨rfl,rfl⟩
theorem wYc (k j:Nat):IsTm (.mk false (mkT k j) []) (.agg (mkC k j)):=wUe k j
theorem wYb (k j:Nat):IsFm (.mk 0 (mkT k j) [] []) (.agg (mkD k j)):=wUf k j
theorem zWf (us:List Tm)(IH:∀ v n l,Tm.mk v n l∈us→KTP gl l):KTP gl us:=by
 intro tg xs htg hxs hsz a cs st hf hb hc
 have hlsz:=yZl us
 have step:∀ t∈us,∀ (x:IV) (_:IsTm t x) (_:t.size≤1099511627776) (c:List IV) (_:LTt st t c),ICall prog gl 55 [.agg c,x] st (fun r st'=>r=.raw (.bool true)∧st'=st):=fun t ht x hx hs c hc=>by
  obtain⟨v,n,l⟩:=t
  exact zZf gl v n l (IH _ _ _ ht) x hx hs c st hf hc
 have hbl:(cs++mksT 12).length=(us.length+12)*3:=by rw[lLa,hc.len,yY5]; omega
 have hwn:IntKind.i64.wrap ((us.length:Int)+12)=((us.length+12:Nat):Int):=by rw[w64]<;>omega
 refine ICall.intro (c:=cfp prog gl [31,48,1000144] [] tmPF (wG8 gl)) func107 rfl (by show _≤58; simp) (by kernel_rfl) ?_
 simp(config:=zzC)only[go_sem,hxs.len,decide_true]
 intro _
 simp(config:=zzC)only[go_sem,hxs.len,hwn,Nat.le_add_right,Nat.le_refl,yJm (Nat.le_refl (us.length+12)),ite_self,Nat.zero_mul]
 intro _
 refine LoopC.ctr (us.length+12) (fun k fr st' ds=>fr 0=.iv (.raw (.slice (some ⟨a,0,none⟩) us.length (us.length+12)))∧fr 1=.iv (.sl tg xs)∧fr 5=.iv (.raw (.slice (some ⟨a,0,none⟩) (us.length+12) (us.length+12)))∧fr 6=.iv (.raw (.int .i64 k))∧st'=st∧ds=[]) ?_ ?_ ?_
 ·simp(config:=zzC)only[go_sem]
  first | rfl | exact⟨rfl,rfl⟩
 ·rintro k fr st _ hlt ⟨f0,f1,f5,f6,rfl,rfl⟩
  by_cases hk:k<us.length
  ·obtain⟨t,ht⟩:=yQ3 hk
   obtain⟨y,hky,hy⟩:=hxs.get ht
   obtain⟨c,hct,hr1,hr2⟩:=hc.get (rest:=mksT 12) ht
   obtain⟨h1,h2⟩:=yZ8 ht
   have hcall:=step t (lMg ht) y hy (by omega) c hct
   have hgeq:decide (((us.length:Nat):Int)≤(k:Nat))=false:=dEf (by omega)
   obtain⟨v5,n5,t5,x5,rfl⟩:=hy.agg
   simp(config:=zzC)only[go_sem,f0,f1,f5,f6,lt_i hlt,lt_i hk,hk,hxs.len,yQ2 htg,iNn,hky,hb,hr1,hr2,hgeq,fits,hlt]
   refine hcall.mono ?_
   rintro _ st ⟨rfl,rfl⟩
   simp(config:=zzC)only[go_sem,f0,f1,f5,f6,hxs.len,hgeq,yQa hlt (show us.length+12≤281474976710656 by omega)]
  ·obtain⟨j,hj⟩:∃ j,k=us.length+j:=⟨k - us.length,by omega⟩
   have hnlt:decide (((k:Nat):Int)<us.length)=false:=dEf (by omega)
   have hgeq:decide (((us.length:Nat):Int)≤(k:Nat))=true:=dEt (by omega)
   have hw:IntKind.i64.wrap (((k:Nat):Int) - us.length)=((j:Nat):Int):=by rw[w64]<;>omega
   have hr1:k*3+3≤(cs++mksT 12).length:=by rw[hbl]; omega
   have hr2:((cs++mksT 12).drop (k*3)).take 3=mkC 1 j:=by
    have hcl:cs.length=us.length*3:=hc.len
    rw[show k*3=cs.length+j*3 by omega,← List.drop_drop,List.drop_left]
    exact xW2 (by omega)
   have hsame:=zKi gl _ _ _ _ (wYc 1 j) (wYc 1 j) st
   rw[yQn.2 rfl] at hsame
   have hall:(mkC 1 j).all IV.one=true:=rfl
   have hml:(mkC 1 j).length=3:=rfl
   simp(config:=zzC)only[go_sem,f0,f1,f5,f6,lt_i hlt,hnlt,hgeq,hxs.len,iNn,hb,hr1,hr2,fits,hlt,hw,hall,hml,vXb]
   intros
   refine hsame.mono ?_
   rintro _ st ⟨rfl,rfl⟩
   simp(config:=zzC)only[go_sem,f0,f1,f5,f6,hxs.len,yQa hlt (show us.length+12≤281474976710656 by omega)]
 ·rintro fr st _ ⟨f0,f1,f5,f6,rfl,rfl⟩
  simp(config:=zzC)only[go_sem,f0,f1,f5,f6,yQm (nLi _),fits]
  exact yQ0 ⟨rfl,rfl⟩
theorem zZe:∀ (k:Nat)(us:List Tm),SizeOf.sizeOf us<k→KTP gl us
 | 0,f,h=>by omega
 | k+1,us,h=>zWf gl us (fun v n l ha=>zZe k l (by
   have:=lSm ha
   simp at this; omega))
theorem zVt (us:List Tm):KTP gl us:=zZe gl _ us (Nat.lt_succ_self _)
theorem xU6 (t:Tm)(x:IV)(hx:IsTm t x)(hs:t.size≤1099511627776)(c:List IV)(st:ISt)(hf:flatSt st)(hc:LTt st t c) :
  ICall prog gl 55 [.agg c,x] st (fun r st'=>r=.raw (.bool true)∧st'=st):=by
 obtain⟨v,n,us⟩:=t
 exact zZf gl v n us (zVt gl us) x hx hs c st hf hc
def KFf (t:Fm):Prop:=∀ (x:IV) (_:IsFm t x) (_:t.size≤1099511627776) (c:List IV) (st:ISt) (_:flatSt st) (_:LFf st t c),
 ICall prog gl 54 [.agg c,x] st (fun r st'=>r=.raw (.bool true)∧st'=st)
theorem yUi (us:List Fm)(IH:∀ a∈us,KFf gl a):KFP gl us:=by
 intro tg xs htg hxs hsz a cs st hf hb hc
 have hlsz:=yZ9 us
 have hbl:(cs++mksF 12).length=(us.length+12)*4:=by rw[lLa,hc.len,yY6]; omega
 have hwn:IntKind.i64.wrap ((us.length:Int)+12)=((us.length+12:Nat):Int):=by rw[w64]<;>omega
 refine ICall.intro (c:=cfp prog gl [31,48,1000127] [] fmPF (wUt gl)) func90 rfl (by show _≤58; simp) (by kernel_rfl) ?_
 simp(config:=zzC)only[go_sem,hxs.len,decide_true]
 intro _
 simp(config:=zzC)only[go_sem,hxs.len,hwn,Nat.le_add_right,Nat.le_refl,yJm (Nat.le_refl (us.length+12)),ite_self,Nat.zero_mul]
 intro _
 refine LoopC.ctr (us.length+12) (fun k fr st' ds=>fr 0=.iv (.raw (.slice (some ⟨a,0,none⟩) us.length (us.length+12)))∧fr 1=.iv (.sl tg xs)∧fr 5=.iv (.raw (.slice (some ⟨a,0,none⟩) (us.length+12) (us.length+12)))∧fr 6=.iv (.raw (.int .i64 k))∧st'=st∧ds=[]) ?_ ?_ ?_
 ·simp(config:=zzC)only[go_sem]
  first | rfl | exact⟨rfl,rfl⟩
 ·rintro k fr st _ hlt ⟨f0,f1,f5,f6,rfl,rfl⟩
  by_cases hk:k<us.length
  ·obtain⟨t,ht⟩:=yQ3 hk
   obtain⟨y,hky,hy⟩:=hxs.get ht
   obtain⟨c,hct,hr1,hr2⟩:=hc.get (rest:=mksF 12) ht
   obtain⟨h1,h2⟩:=yQr ht
   have hcall:=IH t (lMg ht) y hy (by omega) c st hf hct
   have hgeq:decide (((us.length:Nat):Int)≤(k:Nat))=false:=dEf (by omega)
   obtain⟨v5,n5,t5,x5,t6,x6,rfl⟩:=hy.agg
   simp(config:=zzC)only[go_sem,f0,f1,f5,f6,lt_i hlt,lt_i hk,hk,hxs.len,yQ2 htg,iNn,hky,hb,hr1,hr2,hgeq,fits,hlt]
   refine hcall.mono ?_
   rintro _ st ⟨rfl,rfl⟩
   simp(config:=zzC)only[go_sem,f0,f1,f5,f6,hxs.len,hgeq,yQa hlt (show us.length+12≤281474976710656 by omega)]
  ·obtain⟨j,hj⟩:∃ j,k=us.length+j:=⟨k - us.length,by omega⟩
   have hnlt:decide (((k:Nat):Int)<us.length)=false:=dEf (by omega)
   have hgeq:decide (((us.length:Nat):Int)≤(k:Nat))=true:=dEt (by omega)
   have hw:IntKind.i64.wrap (((k:Nat):Int) - us.length)=((j:Nat):Int):=by rw[w64]<;>omega
   have hr1:k*4+4≤(cs++mksF 12).length:=by rw[hbl]; omega
   have hr2:((cs++mksF 12).drop (k*4)).take 4=mkD 1 j:=by
    have hcl:cs.length=us.length*4:=hc.len
    rw[show k*4=cs.length+j*4 by omega,← List.drop_drop,List.drop_left]
    exact xW3 (by omega)
   have hsame:=yUx gl _ _ _ _ (wYb 1 j) (wYb 1 j) st
   rw[yQn.2 rfl] at hsame
   have hall:(mkD 1 j).all IV.one=true:=rfl
   have hml:(mkD 1 j).length=4:=rfl
   simp(config:=zzC)only[go_sem,f0,f1,f5,f6,lt_i hlt,hnlt,hgeq,hxs.len,iNn,hb,hr1,hr2,fits,hlt,hw,hall,hml,vJt]
   intros
   refine hsame.mono ?_
   rintro _ st ⟨rfl,rfl⟩
   simp(config:=zzC)only[go_sem,f0,f1,f5,f6,hxs.len,yQa hlt (show us.length+12≤281474976710656 by omega)]
 ·rintro fr st _ ⟨f0,f1,f5,f6,rfl,rfl⟩
  simp(config:=zzC)only[go_sem,f0,f1,f5,f6,yQm (nLi _),fits]
  exact yQ0 ⟨rfl,rfl⟩
theorem zUq (op:Nat)(n:ByteArray)(us:List Tm)(sub:List Fm)(IH:∀ a∈sub,KFf gl a):KFf gl (.mk op n us sub):=by
 intro x hx hs c st hf hc
 obtain⟨y,hy,ho⟩:=hc.agg hs
 have h1:=zU2 gl hf (subSt.refl _) ho (fun st=>yUx gl _ _ _ _ hy.aged hx st)
 rw[yQn.2 rfl] at h1
 simp only[LFf] at hc
 obtain⟨a,cs,b,ds,_,rfl,hb,hc,hd,he⟩:=hc
 obtain⟨tx,cx,ty,cy,rfl,_,htx,hcx,hty,hcy⟩:=hx.mk
 simp only[Fm.size] at hs
 have h2:=zVt gl us tx cx htx hcx (by omega) a cs st hf hb hc
 have h3:=yUi gl sub IH ty cy hty hcy (by omega) b ds st hf hd he
 refine iI func54 rfl rfl (by kernel_rfl) ?_
 simp(config:=zzC)only[go_sem,fits]
 refine h1.mono ?_
 rintro _ st ⟨rfl,rfl⟩
 simp(config:=zzC)only[go_sem,fits]
 refine h2.mono ?_
 rintro _ st ⟨rfl,rfl⟩
 simp(config:=zzC)only[go_sem,fits]
 refine h3.mono ?_
 rintro _ st ⟨rfl,rfl⟩
 simp(config:=zzC)only[go_sem,fits]
 exact yQ0 ⟨rfl,rfl⟩
theorem zXs:∀ (k:Nat)(a:Fm),SizeOf.sizeOf a<k→KFf gl a
 | 0,f,h=>by omega
 | k+1,.mk o n us sub,h=>zUq gl o n us sub (fun a ha=>zXs k a (by
   have:=lSm ha
   simp at h; omega))
theorem zYw (a:Fm):KFf gl a:=zXs gl _ a (Nat.lt_succ_self _)
theorem zVu (us:List Fm):KFP gl us:=yUi gl us (fun a _=>zYw gl a)
theorem wJg (s:Sq)(x y:IV)(hx:IsSq s x)(hl:yQ7 s.l≤1099511627776)(hr:yQ7 s.r≤1099511627776)(st:ISt)(hf:flatSt st)(hc:LSq st s y) :
  ICall prog gl 39 [y,x] st (fun r st'=>r=.raw (.bool true)∧st'=st):=by
 obtain⟨z,hz,ho⟩:=hc.oi hl hr
 have h1:=zU2 gl hf (subSt.refl _) ho (fun st=>yGs gl _ _ _ _ (IsSq.aged hz) hx st)
 rw[yQn.2 rfl] at h1
 obtain⟨a,cs,b,ds,rfl,hb,hc,hd,he⟩:=hc
 obtain⟨t1,x1,t2,x2,rfl,e1,i1,e2,i2⟩:=hx
 have h2:=zVu gl s.l t1 x1 e1 i1 hl a cs st hf hb hc
 have h3:=zVu gl s.r t2 x2 e2 i2 hr b ds st hf hd he
 refine iI func39 rfl rfl (by kernel_rfl) ?_
 simp(config:=zzC)only[go_sem,fits]
 refine h1.mono ?_
 rintro _ st ⟨rfl,rfl⟩
 simp(config:=zzC)only[go_sem,fits]
 refine h2.mono ?_
 rintro _ st ⟨rfl,rfl⟩
 simp(config:=zzC)only[go_sem,fits]
 refine h3.mono ?_
 rintro _ st ⟨rfl,rfl⟩
 simp(config:=zzC)only[go_sem,fits]
 exact yQ0 ⟨rfl,rfl⟩
def Z0 (x:IV):Prop:=(∃ f e,x=.sl ⟨f,.nil,e⟩ [])∨x=.raw (.slice none 0 0)
def hdK:Nat→IV→Prop
 | 3,v=>∃ b,v=.raw (.bool b)
 | 4,v=>∃ o,v=.raw (.int .u8 o)
 | 2,v=>∃ q:Option Addr×Nat×Nat,v=.raw (.slice q.1 q.2.1 q.2.2)
 | _,_=>False
def nx:Nat→Nat→Option Nat
 | 3,2=>some 3
 | 4,2=>some 3
 | 4,3=>some 4
 | 2,0=>some 4
 | 2,1=>some 4
 | _,_=>none
theorem vJ0 {s j s':Nat}(h:nx s j=some s'):j<s:=by
 unfold nx at h
 split at h<;>first | omega | cases h
theorem hdK.one {s s':Nat}{v:IV}(h:hdK s v)(h':hdK s' v):s=s':=by
 unfold hdK at h h'
 split at h<;>split at h'<;>first | rfl | exact h.elim | exact h'.elim | (obtain⟨_,rfl⟩:=h; obtain⟨_,h'⟩:=h'; cases h')
theorem nx3 {j s':Nat}(h:nx 3 j=some s'):j=2∧s'=3:=by
 match j,h with
 | 2,h=>cases h; exact⟨rfl,rfl⟩
theorem nx4 {j s':Nat}(h:nx 4 j=some s'):j=2∧s'=3∨j=3∧s'=4:=by
 match j,h with
 | 2,h=>cases h; exact .inl ⟨rfl,rfl⟩
 | 3,h=>cases h; exact .inr ⟨rfl,rfl⟩
theorem nx2 {j s':Nat}(h:nx 2 j=some s'):(j=0∨j=1)∧s'=4:=by
 match j,h with
 | 0,h=>cases h; exact⟨.inl rfl,rfl⟩
 | 1,h=>cases h; exact⟨.inr rfl,rfl⟩
def OK (D:Nat→Prop):Nat→Nat→ISt→IV→Prop
 | 0,_,_,x=>Z0 x
 | d+1,s,st,x=>Z0 x∨∃ g n c cs v,x=.raw (.slice (some ⟨g,0,none⟩) n c)∧D g∧n≤140737488355328∧n≤c∧st g=some (.box cs)∧c*s≤cs.length∧cs[0]?=some v∧hdK s v ∧
   ∀ i,i<n→(∀ j,j<s→∃ y,cs[i*s+j]?=some y∧y.one=true∧y.def_)∧∀ j y s',cs[i*s+j]?=some y→nx s j=some s'→OK D d s' st y
theorem OK.zero {D:Nat→Prop}{d s:Nat}{st:ISt}{x:IV}(h:Z0 x):OK D d s st x:=by cases d<;>first | exact h | exact .inl h
theorem Z0.raw {g n c:Nat}(h:Z0 (.raw (.slice (some ⟨g,0,none⟩) n c))):False:=by
 rcases h with⟨_,_,h⟩ | h<;>cases h
theorem OK.raw {D:Nat→Prop}{d s g n c:Nat}{st:ISt}(h:OK D d s st (.raw (.slice (some ⟨g,0,none⟩) n c))):∃ e cs v,d=e+1∧D g∧n≤140737488355328∧n≤c∧st g=some (.box cs)∧c*s≤cs.length∧cs[0]?=some v∧hdK s v ∧
   ∀ i,i<n→(∀ j,j<s→∃ y,cs[i*s+j]?=some y∧y.one=true∧y.def_)∧∀ j y s',cs[i*s+j]?=some y→nx s j=some s'→OK D e s' st y:=by
 cases d with
 | zero=>exact (Z0.raw h).elim
 | succ e =>
  rcases h with h | ⟨g',n',c',cs,v,he,h⟩
  ·exact (Z0.raw h).elim
  ·cases he
   exact⟨e,cs,v,rfl,h⟩
theorem OK.up {D:Nat→Prop}:∀ {d s:Nat} {st:ISt} {x:IV},OK D d s st x→OK D (d+1) s st x
 | 0,_,_,_,h=>.inl h
 | d+1,s,st,x,h=>by
  rcases h with h | ⟨g,n,c,cs,v,h1,h2,h3,h4,h5,h6,h7,h8,h9⟩
  ·exact .inl h
  ·exact .inr ⟨g,n,c,cs,v,h1,h2,h3,h4,h5,h6,h7,h8,fun i hi=>⟨(h9 i hi).1,fun j y s' hy hn=>((h9 i hi).2 j y s' hy hn).up⟩⟩
theorem OK.le {D:Nat→Prop}{d e s:Nat}{st:ISt}{x:IV}(h:OK D d s st x)(hde:d≤e):OK D e s st x:=by
 induction hde with
 | refl=>exact h
 | step _ ih=>exact ih.up
theorem OK.mono {D:Nat→Prop}:∀ {d s:Nat} {st st':ISt} {x:IV},subSt st st'→OK D d s st x→OK D d s st' x
 | 0,_,_,_,_,_,h=>h
 | d+1,s,st,st',x,hs,h=>by
  rcases h with h | ⟨g,n,c,cs,v,h1,h2,h3,h4,h5,h6,h7,h8,h9⟩
  ·exact .inl h
  ·exact .inr ⟨g,n,c,cs,v,h1,h2,h3,h4,hs _ _ h5,h6,h7,h8,fun i hi=>⟨(h9 i hi).1,fun j y s' hy hn=>((h9 i hi).2 j y s' hy hn).mono hs⟩⟩
structure Ow (D:Nat→Prop)(st st':ISt):Prop where
 dom:∀ b,¬ D b→st' b=st b
 keep:∀ d s x,OK D d s st x→OK D d s st' x
theorem Ow.refl (D:Nat→Prop)(st:ISt):Ow D st st:=⟨fun _ _=>rfl,fun _ _ _ h=>h⟩
theorem Ow.trans {D:Nat→Prop}{a b c:ISt}(h:Ow D a b)(k:Ow D b c):Ow D a c:=⟨fun g hg=>(k.dom g hg).trans (h.dom g hg),fun d s x hx=>k.keep d s x (h.keep d s x hx)⟩
structure Wr (s:Nat)(w:List IV):Prop where
 len:w.length=s
 hd:∃ v,w[0]?=some v∧hdK s v
 one:∀ y∈w,y.one=true∧y.def_
 z:∀ j y s',w[j]?=some y→nx s j=some s'→Z0 y
theorem OK.put {D:Nat→Prop}{st:ISt}{g s0 i:Nat}{cs w:List IV}{v:IV}(hg:st g=some (.box cs))(h0:cs[0]?=some v)(hv:hdK s0 v)(hle:i*s0+s0≤cs.length)(hw:Wr s0 w) :
  ∀ (d s:Nat) (x:IV),OK D d s st x→OK D d s (st.put g (some (.box (setAt cs (i*s0) w)))) x
 | 0,_,_,h=>h
 | d+1,s,x,h=>by
  rcases h with h | ⟨g',n,c,cs',u,h1,h2,h3,h4,h5,h6,h7,h8,h9⟩
  ·exact .inl h
  have hl:i*s0+w.length≤cs.length:=by rw[hw.len]; exact hle
  by_cases hgg:g'=g
  ·subst hgg
   rw[hg] at h5; cases h5
   rw[h0] at h7; cases h7
   obtain rfl:=hv.one h8
   have hget:∀ k,(setAt cs (i*s0) w)[k]?=if i*s0≤k∧k<i*s0+s0 then w[k - i*s0]? else cs[k]?:=fun k=>by rw[wQ8 hl,hw.len]
   have hs0:0<s0:=by
    rcases Nat.eq_zero_or_pos s0 with rfl | h
    ·exact hv.elim
    ·exact h
   have hq:∃ v',(setAt cs (i*s0) w)[0]?=some v'∧hdK s0 v':=by
    rw[hget]
    split
    ·rename_i hk
     obtain⟨v',h1,h2⟩:=hw.hd
     rw[show 0 - i*s0=0 by omega]
     exact⟨v',h1,h2⟩
    ·exact⟨v,h0,hv⟩
   obtain⟨v',e1,e2⟩:=hq
   refine .inr ⟨g',n,c,_,v',h1,h2,h3,h4,ISt.put_same ..,by rw[xQe hl]; exact h6,e1,e2,fun k hk=>?_⟩
   obtain⟨a1,a2⟩:=h9 k hk
   by_cases hki:k=i
   ·subst hki
    refine⟨fun j hj=>?_,fun j y s' hy hn=>?_⟩
    ·rw[hget,if_pos ⟨by omega,by omega⟩,show k*s0+j - k*s0=j by omega]
     obtain⟨y,hy⟩:=yQ3 (l:=w) (k:=j) (by rw[hw.len]; exact hj)
     exact⟨y,hy,hw.one y (lMg hy)⟩
    ·have hj:=vJ0 hn
     rw[hget,if_pos ⟨by omega,by omega⟩,show k*s0+j - k*s0=j by omega] at hy
     exact .zero (hw.z j y s' hy hn)
   ·have hout:∀ j,j<s0→¬(i*s0≤k*s0+j∧k*s0+j<i*s0+s0):=fun j hj hc=>by
     rcases Nat.lt_or_gt_of_ne hki with h | h
     ·have:=Nat.mul_le_mul_right s0 (show k+1≤i from h)
      rw[Nat.add_mul] at this; omega
     ·have:=Nat.mul_le_mul_right s0 (show i+1≤k from h)
      rw[Nat.add_mul] at this; omega
    refine⟨fun j hj=>?_,fun j y s' hy hn=>OK.put hg h0 hv hle hw d s' y (a2 j y s' ?_ hn)⟩
    ·rw[hget,if_neg (hout j hj)]; exact a1 j hj
    ·rw[hget,if_neg (hout j (vJ0 hn))] at hy
     exact hy
  ·exact .inr ⟨g',n,c,cs',u,h1,h2,h3,h4,by rw[yZ2 hgg]; exact h5,h6,h7,h8,fun k hk=>by
    obtain⟨a1,a2⟩:=h9 k hk
    exact⟨a1,fun j y s' hy hn=>OK.put hg h0 hv hle hw d s' y (a2 j y s' hy hn)⟩⟩
theorem Ow.put {D:Nat→Prop}{st:ISt}{g s0 i:Nat}{cs w:List IV}{v:IV}(hD:D g)(hg:st g=some (.box cs))(h0:cs[0]?=some v)(hv:hdK s0 v)(hle:i*s0+s0≤cs.length)(hw:Wr s0 w):Ow D st (st.put g (some (.box (setAt cs (i*s0) w)))) :=
 ⟨fun b hb=>yZ2 (by rintro rfl; exact hb hD),OK.put hg h0 hv hle hw⟩
theorem wr3 (k j:Nat):Wr 3 (mkC k j):=⟨rfl,⟨_,rfl,_,rfl⟩,fun y hy=>by
  simp only[mkC,List.mem_cons,List.not_mem_nil,or_false] at hy
  rcases hy with rfl | rfl | rfl<;>exact⟨rfl,fun h=>by cases h⟩,fun j y s' hy hn=>by
  obtain⟨rfl,rfl⟩:=nx3 hn
  cases hy; exact .inl ⟨_,_,rfl⟩⟩
theorem wr4 (k j:Nat):Wr 4 (mkD k j):=⟨rfl,⟨_,rfl,_,rfl⟩,fun y hy=>by
  simp only[mkD,List.mem_cons,List.not_mem_nil,or_false] at hy
  rcases hy with rfl | rfl | rfl | rfl<;>exact⟨rfl,fun h=>by cases h⟩,fun j y s' hy hn=>by
  rcases nx4 hn with⟨rfl,rfl⟩ | ⟨rfl,rfl⟩<;>(cases hy; exact .inl ⟨_,_,rfl⟩)⟩
theorem zXj (D:Nat→Prop)(f:Bool)(e:Nat)(st:ISt):ICall prog gl 190 [.sl ⟨f,.nil,e⟩ []] st (fun _ st'=>Ow D st st'):=by
 refine iI func190 rfl rfl (by kernel_rfl) ?_
 simp(config:=zzC)only[go_sem,fits]
 refine LoopC.ctr 0 (fun k fr st' ds=>fr 0=.iv (.sl ⟨f,.nil,e⟩ [])∧fr 2=.iv (.raw (.int .i64 0))∧st'=st∧ds=[]) ?_ ?_ ?_
 ·simp(config:=zzC)only[go_sem]
 ·intro k _ _ _ h; omega
 ·rintro fr st _ ⟨f0,f2,rfl,rfl⟩
  simp(config:=zzC)only[go_sem,f0,f2,show decide ((0:Int)<((0:Nat):Int))=false from rfl,show IntKind.i64.wrap (((0:Nat):Int)+12)=12 from rfl,show min (0:Int) 12=((0:Nat):Int) from rfl,yJm (Nat.le_refl 0)]
  intros
  refine LoopC.ctr 0 (fun k fr st' ds=>(∃ t,fr 3=.iv (.sl t []))∧fr 4=.iv (.raw (.int .i64 0))∧st'=st∧ds=[]) ?_ ?_ ?_
  ·simp(config:=zzC)only[go_sem]
   exact⟨_,rfl⟩
  ·intro k _ _ _ h; omega
  ·rintro fr st _ ⟨⟨t,f3⟩,f4,rfl,rfl⟩
   simp(config:=zzC)only[go_sem,f3,f4,show decide ((0:Int)<((0:Nat):Int))=false from rfl]
   intros
   exact yQ0 (Ow.refl _ _)
theorem zXl (D:Nat→Prop)(f:Bool)(e:Nat)(st:ISt):ICall prog gl 89 [.sl ⟨f,.nil,e⟩ []] st (fun _ st'=>Ow D st st'):=by
 refine iI func89 rfl rfl (by kernel_rfl) ?_
 simp(config:=zzC)only[go_sem,fits]
 refine LoopC.ctr 0 (fun k fr st' ds=>fr 0=.iv (.sl ⟨f,.nil,e⟩ [])∧fr 2=.iv (.raw (.int .i64 0))∧st'=st∧ds=[]) ?_ ?_ ?_
 ·simp(config:=zzC)only[go_sem]
 ·intro k _ _ _ h; omega
 ·rintro fr st _ ⟨f0,f2,rfl,rfl⟩
  simp(config:=zzC)only[go_sem,f0,f2,show decide ((0:Int)<((0:Nat):Int))=false from rfl,show IntKind.i64.wrap (((0:Nat):Int)+12)=12 from rfl,show min (0:Int) 12=((0:Nat):Int) from rfl,yJm (Nat.le_refl 0)]
  intros
  refine LoopC.ctr 0 (fun k fr st' ds=>(∃ t,fr 3=.iv (.sl t []))∧fr 4=.iv (.raw (.int .i64 0))∧st'=st∧ds=[]) ?_ ?_ ?_
  ·simp(config:=zzC)only[go_sem]
   exact⟨_,rfl⟩
  ·intro k _ _ _ h; omega
  ·rintro fr st _ ⟨⟨t,f3⟩,f4,rfl,rfl⟩
   simp(config:=zzC)only[go_sem,f3,f4,show decide ((0:Int)<((0:Nat):Int))=false from rfl]
   intros
   exact yQ0 (Ow.refl _ _)
theorem zXh {D:Nat→Prop}{x:IV}(h:Z0 x)(st:ISt):ICall prog gl 190 [x] st (fun _ st'=>Ow D st st'):=by
 rcases h with⟨f,e,rfl⟩ | rfl
 ·exact zXj gl D f e st
 ·exact ICall.nil1 (zXj gl D _ _ st)
theorem zXk {D:Nat→Prop}{x:IV}(h:Z0 x)(st:ISt):ICall prog gl 89 [x] st (fun _ st'=>Ow D st st'):=by
 rcases h with⟨f,e,rfl⟩ | rfl
 ·exact zXl gl D f e st
 ·exact ICall.nil1 (zXl gl D _ _ st)
theorem xZi {D:Nat→Prop}{a b y:IV}{st:ISt}(ha:a.one=true)(hb:b.one=true)(hy1:y.one=true)(hy:y.def_)(h:ICall prog gl 190 [y] st (fun _ st'=>Ow D st st')) :
  ICall prog gl 255 [.agg [a,b,y]] st (fun _ st'=>Ow D st st'):=by
 refine iI func255 rfl rfl (by kernel_rfl) ?_
 simp(config:=zzC)only[go_sem,fits,ha,hb,hy1,zQw hy]
 refine h.mono ?_
 rintro _ st2 hov
 simp(config:=zzC)only[go_sem,fits]
 exact yQ0 hov
theorem zXi (D:Nat→Prop):∀ (d:Nat) (x:IV) (st:ISt),OK D d 3 st x→ICall prog gl 190 [x] st (fun _ st'=>Ow D st st')
 | 0,x,st,h=>zXh gl h st
 | d+1,x,st,h=>by
  have part:∀ {st1:ISt} {cells cs1:List IV} {k:Nat},cells.length=3→(∀ j,j<3→∃ y,cells[j]?=some y∧cs1[k*3+j]?=some y∧y.one=true∧y.def_)→(∀ j y s',cs1[k*3+j]?=some y→nx 3 j=some s'→OK D d s' st1 y) →
    ICall prog gl 255 [.agg cells] st1 (fun _ st'=>Ow D st1 st'):=by
   intro st1 cells cs1 k hl hc h2
   match cells,hl with
   | [a,b,y],_ =>
    obtain⟨_,e0,_,a0,_⟩:=hc 0 (by omega)
    obtain⟨_,e1,_,a1,_⟩:=hc 1 (by omega)
    obtain⟨_,e2,q2,a2,d2⟩:=hc 2 (by omega)
    cases e0; cases e1; cases e2
    exact xZi gl a0 a1 a2 d2 (zXi D d y st1 (h2 2 _ 3 q2 rfl))
  rcases h with h | ⟨g,n,c,cs,v,rfl,hD,hn,hnc,hg,hlen,h0,hv,hi⟩
  ·exact zXh gl h st
  have hw:OK D (d+1) 3 st (.raw (.slice (some ⟨g,0,none⟩) n c)):=.inr ⟨g,n,c,cs,v,rfl,hD,hn,hnc,hg,hlen,h0,hv,hi⟩
  clear hg hlen h0 hv hi
  have hwn:IntKind.i64.wrap ((n:Int)+12)=((n+12:Nat):Int):=by rw[w64]<;>omega
  have hmin:min (c:Int) ((n+12:Nat):Int)=((min c (n+12):Nat):Int):=by omega
  generalize hm:min c (n+12)=m at hmin
  have hmc:m≤c:=by omega
  have hmb:m≤281474976710000:=by omega
  refine iI func190 rfl rfl (by kernel_rfl) ?_
  simp(config:=zzC)only[go_sem,fits]
  refine LoopC.ctr n (fun k fr st' ds=>fr 0=.iv (.raw (.slice (some ⟨g,0,none⟩) n c))∧fr 2=.iv (.raw (.int .i64 k))∧Ow D st st'∧ds=[]) ?_ ?_ ?_
  ·simp(config:=zzC)only[go_sem]
   exact⟨rfl,Ow.refl _ _⟩
  ·rintro k fr st1 _ hlt ⟨f0,f2,hov,rfl⟩
   obtain⟨e,cs1,v,he,_,_,_,hg1,hl1,_,_,hi1⟩:=(hov.keep _ _ _ hw).raw
   obtain rfl:d=e:=by omega
   obtain⟨hone,h2⟩:=hi1 k hlt
   have hle:k*3+3≤cs1.length:=by
    have:=Nat.mul_le_mul_right 3 (show k+1≤c by omega)
    omega
   obtain⟨cells,hcl,hcells⟩:∃ l,l=(cs1.drop (k*3)).take 3∧∀ j,j<3→∃ y,l[j]?=some y∧cs1[k*3+j]?=some y∧y.one=true∧y.def_:=⟨_,rfl,fun j hj=>by
    obtain⟨y,hy,h⟩:=hone j hj
    exact⟨y,by rw[List.getElem?_take,if_pos hj,List.getElem?_drop]; exact hy,hy,h⟩⟩
   have hc4:cells.length=3:=by rw[hcl,List.length_take,List.length_drop]; omega
   have hcall:=part hc4 hcells h2
   simp(config:=zzC)only[go_sem,f0,f2,lt_i hlt,iNn,hlt,hg1,hle,hcl.symm]
   refine hcall.mono ?_
   rintro _ st2 hov2
   simp(config:=zzC)only[go_sem,f0,f2,yQa hlt (show n≤281474976710656 by omega)]
   exact hov.trans hov2
  ·rintro fr st1 _ ⟨f0,f2,hov,rfl⟩
   simp(config:=zzC)only[go_sem,f0,f2,yQm (nLi _),hwn,hmin,hnc,yJm hmc,ite_self,Nat.zero_mul]
   refine LoopC.ctr m (fun k fr st' ds=>fr 3=.iv (.raw (.slice (some ⟨g,0,none⟩) m c))∧fr 4=.iv (.raw (.int .i64 k))∧Ow D st st'∧ds=[]) ?_ ?_ ?_
   ·simp(config:=zzC)only[go_sem]
    exact⟨rfl,hov⟩
   ·rintro k fr st2 _ hlt ⟨f3,f4,hov2,rfl⟩
    obtain⟨e,cs1,v,he,_,_,_,hg1,hl1,h0,hv,hi1⟩:=(hov2.keep _ _ _ hw).raw
    have hle:k*3+3≤cs1.length:=by
     have:=Nat.mul_le_mul_right 3 (show k+1≤c by omega)
     omega
    have hmk:=zZr gl 2 k st2
    have hput:=Ow.put hD hg1 h0 hv hle (wr3 2 k)
    simp(config:=zzC)only[go_sem,f3,f4,lt_i hlt,iNn,hlt]
    refine hmk.mono ?_
    rintro _ st2 ⟨rfl,rfl⟩
    generalize hst3:st2.put g (some (.box (setAt cs1 (k*3) (mkC 2 k))))=st3 at hput
    have hov3:=hov2.trans hput
    have hall:(mkC 2 k).all IV.one=true:=rfl
    have hml:(mkC 2 k).length=3:=rfl
    unfold setAt at hst3
    rw[hml] at hst3
    simp(config:=zzC)only[go_sem,f3,f4,lt_i hlt,iNn,hlt,hg1,hle,hall,hml,fits,hst3,yQa hlt (show m≤281474976710656 by omega)]
    exact hov3
   ·rintro fr st2 _ ⟨f3,f4,hov2,rfl⟩
    simp(config:=zzC)only[go_sem,f3,f4,yQm (nLi _),fits]
    intros
    exact yQ0 hov2
theorem xZj {D:Nat→Prop}{a b y z:IV}{st:ISt}{d:Nat}(ha:a.one=true)(hb:b.one=true)(hy1:y.one=true)(hy:y.def_)(hz1:z.one=true)(hz:z.def_)(h:OK D d 3 st y)(hzo:OK D d 4 st z)
  (IH:∀ st,OK D d 4 st z→ICall prog gl 89 [z] st (fun _ st'=>Ow D st st')) :
  ICall prog gl 140 [.agg [a,b,y,z]] st (fun _ st'=>Ow D st st'):=by
 have h1:=zXi gl D d y st h
 refine iI func140 rfl rfl (by kernel_rfl) ?_
 simp(config:=zzC)only[go_sem,fits,ha,hb,hy1,hz1,zQw hy]
 refine h1.mono ?_
 rintro _ st2 hov
 simp(config:=zzC)only[go_sem,fits,zQw hz]
 refine (IH _ (hov.keep _ _ _ hzo)).mono ?_
 rintro _ st3 hov2
 simp(config:=zzC)only[go_sem,fits]
 exact yQ0 (hov.trans hov2)
theorem yG5 (D:Nat→Prop):∀ (d:Nat) (x:IV) (st:ISt),OK D d 4 st x→ICall prog gl 89 [x] st (fun _ st'=>Ow D st st')
 | 0,x,st,h=>zXk gl h st
 | d+1,x,st,h=>by
  have part:∀ {st1:ISt} {cells cs1:List IV} {k:Nat},cells.length=4→(∀ j,j<4→∃ y,cells[j]?=some y∧cs1[k*4+j]?=some y∧y.one=true∧y.def_)→(∀ j y s',cs1[k*4+j]?=some y→nx 4 j=some s'→OK D d s' st1 y) →
    ICall prog gl 140 [.agg cells] st1 (fun _ st'=>Ow D st1 st'):=by
   intro st1 cells cs1 k hl hc h2
   match cells,hl with
   | [a,b,y,z],_ =>
    obtain⟨_,e0,_,a0,_⟩:=hc 0 (by omega)
    obtain⟨_,e1,_,a1,_⟩:=hc 1 (by omega)
    obtain⟨_,e2,q2,a2,d2⟩:=hc 2 (by omega)
    obtain⟨_,e3,q3,a3,d3⟩:=hc 3 (by omega)
    cases e0; cases e1; cases e2; cases e3
    exact xZj gl a0 a1 a2 d2 a3 d3 (h2 2 _ 3 q2 rfl) (h2 3 _ 4 q3 rfl) (fun st=>yG5 D d z st)
  rcases h with h | ⟨g,n,c,cs,v,rfl,hD,hn,hnc,hg,hlen,h0,hv,hi⟩
  ·exact zXk gl h st
  have hw:OK D (d+1) 4 st (.raw (.slice (some ⟨g,0,none⟩) n c)):=.inr ⟨g,n,c,cs,v,rfl,hD,hn,hnc,hg,hlen,h0,hv,hi⟩
  clear hg hlen h0 hv hi
  have hwn:IntKind.i64.wrap ((n:Int)+12)=((n+12:Nat):Int):=by rw[w64]<;>omega
  have hmin:min (c:Int) ((n+12:Nat):Int)=((min c (n+12):Nat):Int):=by omega
  generalize hm:min c (n+12)=m at hmin
  have hmc:m≤c:=by omega
  have hmb:m≤281474976710000:=by omega
  refine iI func89 rfl rfl (by kernel_rfl) ?_
  simp(config:=zzC)only[go_sem,fits]
  refine LoopC.ctr n (fun k fr st' ds=>fr 0=.iv (.raw (.slice (some ⟨g,0,none⟩) n c))∧fr 2=.iv (.raw (.int .i64 k))∧Ow D st st'∧ds=[]) ?_ ?_ ?_
  ·simp(config:=zzC)only[go_sem]
   exact⟨rfl,Ow.refl _ _⟩
  ·rintro k fr st1 _ hlt ⟨f0,f2,hov,rfl⟩
   obtain⟨e,cs1,v,he,_,_,_,hg1,hl1,_,_,hi1⟩:=(hov.keep _ _ _ hw).raw
   obtain rfl:d=e:=by omega
   obtain⟨hone,h2⟩:=hi1 k hlt
   have hle:k*4+4≤cs1.length:=by
    have:=Nat.mul_le_mul_right 4 (show k+1≤c by omega)
    omega
   obtain⟨cells,hcl,hcells⟩:∃ l,l=(cs1.drop (k*4)).take 4∧∀ j,j<4→∃ y,l[j]?=some y∧cs1[k*4+j]?=some y∧y.one=true∧y.def_:=⟨_,rfl,fun j hj=>by
    obtain⟨y,hy,h⟩:=hone j hj
    exact⟨y,by rw[List.getElem?_take,if_pos hj,List.getElem?_drop]; exact hy,hy,h⟩⟩
   have hc4:cells.length=4:=by rw[hcl,List.length_take,List.length_drop]; omega
   have hcall:=part hc4 hcells h2
   simp(config:=zzC)only[go_sem,f0,f2,lt_i hlt,iNn,hlt,hg1,hle,hcl.symm]
   refine hcall.mono ?_
   rintro _ st2 hov2
   simp(config:=zzC)only[go_sem,f0,f2,yQa hlt (show n≤281474976710656 by omega)]
   exact hov.trans hov2
  ·rintro fr st1 _ ⟨f0,f2,hov,rfl⟩
   simp(config:=zzC)only[go_sem,f0,f2,yQm (nLi _),hwn,hmin,hnc,yJm hmc,ite_self,Nat.zero_mul]
   refine LoopC.ctr m (fun k fr st' ds=>fr 3=.iv (.raw (.slice (some ⟨g,0,none⟩) m c))∧fr 4=.iv (.raw (.int .i64 k))∧Ow D st st'∧ds=[]) ?_ ?_ ?_
   ·simp(config:=zzC)only[go_sem]
    exact⟨rfl,hov⟩
   ·rintro k fr st2 _ hlt ⟨f3,f4,hov2,rfl⟩
    obtain⟨e,cs1,v,he,_,_,_,hg1,hl1,h0,hv,hi1⟩:=(hov2.keep _ _ _ hw).raw
    have hle:k*4+4≤cs1.length:=by
     have:=Nat.mul_le_mul_right 4 (show k+1≤c by omega)
     omega
    have hmk:=yGq gl 2 k st2
    have hput:=Ow.put hD hg1 h0 hv hle (wr4 2 k)
    simp(config:=zzC)only[go_sem,f3,f4,lt_i hlt,iNn,hlt]
    refine hmk.mono ?_
    rintro _ st2 ⟨rfl,rfl⟩
    generalize hst3:st2.put g (some (.box (setAt cs1 (k*4) (mkD 2 k))))=st3 at hput
    have hov3:=hov2.trans hput
    have hall:(mkD 2 k).all IV.one=true:=rfl
    have hml:(mkD 2 k).length=4:=rfl
    unfold setAt at hst3
    rw[hml] at hst3
    simp(config:=zzC)only[go_sem,f3,f4,lt_i hlt,iNn,hlt,hg1,hle,hall,hml,fits,hst3,yQa hlt (show m≤281474976710656 by omega)]
    exact hov3
   ·rintro fr st2 _ ⟨f3,f4,hov2,rfl⟩
    simp(config:=zzC)only[go_sem,f3,f4,yQm (nLi _),fits]
    intros
    exact yQ0 hov2
theorem xGg {D:Nat→Prop}{d:Nat}{y z:IV}{st:ISt}(hy1:y.one=true)(hy:y.def_)(hz1:z.one=true)(hz:z.def_)(h:OK D d 4 st y)(h':OK D d 4 st z) :
  ICall prog gl 38 [.agg [y,z]] st (fun _ st'=>Ow D st st'):=by
 have h1:=yG5 gl D d y st h
 have h2:=fun st=>yG5 gl D d z st
 refine iI func38 rfl rfl (by kernel_rfl) ?_
 simp(config:=zzC)only[go_sem,fits,hy1,hz1,zQw hy]
 refine h1.mono ?_
 rintro _ st2 hov
 simp(config:=zzC)only[go_sem,fits,zQw hz]
 refine (h2 _ (hov.keep _ _ _ h')).mono ?_
 rintro _ st3 hov2
 simp(config:=zzC)only[go_sem,fits]
 exact yQ0 (hov.trans hov2)
theorem xVw {N:ISt}(hraw:wKb N):∀ (k:Nat) (us:List Tm),SizeOf.sizeOf us<k→∀ (y:IV) (t:Tag) (xs:List IV),(∃ v,y=.raw v)→OI N y (.sl t xs)→okEs t 3→IsTms us xs→dfr (.sl t xs)→∃ d,OK (fun b=>N b≠none) d 3 N y
 | 0,_,h=>by omega
 | k+1,us,hk=>by
  rintro y t xs ⟨v,rfl⟩ ho hes hxs hd
  simp only[dfr] at hd
  cases ho with
  | nil _ h=>exact⟨0,.inr rfl⟩
  | sl g cap _ _ cs hcap hlen hcl hs hst hroom h =>
   have h3:=zGs hes hcap
   rw[h3] at hroom
   have hs3:∀ x∈xs,x.cells.length=3:=fun x hx=>by rw[hs x hx,h3]
   have hpos:0<xs.length:=by
    rcases hd.1 with hn | hp
    ·rw[hcap] at hn; cases hn
    ·exact hp.1
   have hcc:=Nat.mul_le_mul_right 3 hcl
   have part:∀ i,i<xs.length→∃ r0 r1 r2 v n us' t' xs',cs[3*i]?=some r0∧cs[3*i+1]?=some r1∧cs[3*i+2]?=some r2∧Tm.mk v n us'∈us∧r0=.raw (.bool v)∧r1=.raw (.string n)∧OI N r2 (.sl t' xs')∧okEs t' 3∧IsTms us' xs'∧dfr (.sl t' xs'):=fun i hi=>by
    obtain⟨x,hx⟩:=yQ3 hi
    obtain⟨⟨v,n,us'⟩,ha,hax⟩:=hxs.mem hx
    have hdx:=yK7 hd.2.1 (lMg hx)
    obtain⟨t',xs',rfl,ht',hxs'⟩:=hax.mk
    obtain⟨r0,hr0⟩:=yQ3 (show 3*i<cs.length by omega)
    obtain⟨r1,hr1⟩:=yQ3 (show 3*i+1<cs.length by omega)
    obtain⟨r2,hr2⟩:=yQ3 (show 3*i+2<cs.length by omega)
    have e0:=yV7 hs3 hx (show 0<3 by omega)
    have e1:=yV7 hs3 hx (show 1<3 by omega)
    have e2:=yV7 hs3 hx (show 2<3 by omega)
    simp only[dfr] at hdx
    exact⟨r0,r1,r2,v,n,us',t',xs',hr0,hr1,hr2,lMg ha,(h _ _ _ hr0 e0).raw_eq,(h _ _ _ hr1 e1).raw_eq,h _ _ _ hr2 e2,ht',hxs',yK7 hdx.1 (by simp)⟩
   have each:∀ i,i<xs.length→∃ d,∀ y,cs[i*3+2]?=some y→OK (fun b=>N b≠none) d 3 N y:=fun i hi=>by
    obtain⟨r0,r1,r2,v,n,us',t',xs',_,_,k2,k3,_,_,k5,k6,k7,k8⟩:=part i hi
    obtain⟨w,hw⟩:=yYv (hraw _ _ hst r2 (lMg k2)) k5
    obtain⟨d,hd⟩:=xVw hraw k us' (by have:=lSm k3; simp at this; omega) _ _ _ ⟨w,hw⟩ k5 k6 k7 k8
    refine⟨d,fun y hy=>?_⟩
    rw[Nat.mul_comm,k2] at hy; cases hy
    exact hd
   obtain⟨d,hd'⟩:=zZ9 (P:=fun d i=>∀ y,cs[i*3+2]?=some y→OK (fun b=>N b≠none) d 3 N y) (fun d i h y hy=>(h y hy).up) _ each
   obtain⟨r0,_,_,v,_,_,_,_,k0,_,_,_,q0,_⟩:=part 0 hpos
   refine⟨d+1,.inr ⟨g,xs.length,cap,cs,.raw (.bool v),rfl,(by show N g≠none; rw[hst]; exact fun h=>by cases h),hlen,hcl,hst,hroom,by rw[← q0]; exact k0,⟨v,rfl⟩,fun i hi=>⟨fun j hj=>?_,fun j y s' hy hn=>by
    obtain⟨rfl,rfl⟩:=nx3 hn
    exact hd' i hi y hy⟩⟩⟩
   obtain⟨r0,r1,r2,v,n,us',t',xs',k0,k1,k2,_,q0,q1,k5,_⟩:=part i hi
   obtain⟨w,hw⟩:=yYv (hraw _ _ hst r2 (lMg k2)) k5
   rw[Nat.mul_comm]
   match j,hj with
   | 0,_=>exact⟨r0,k0,by rw[q0]; exact⟨rfl,fun h=>by cases h⟩⟩
   | 1,_=>exact⟨r1,k1,by rw[q1]; exact⟨rfl,fun h=>by cases h⟩⟩
   | 2,_ =>
    refine⟨r2,k2,?_⟩
    subst hw
    refine⟨?_,fun h=>by cases h⟩
    cases k5<;>rfl
theorem zGq {N:ISt}(hraw:wKb N):∀ (k:Nat) (us:List Fm),SizeOf.sizeOf us<k→∀ (y:IV) (t:Tag) (xs:List IV),(∃ v,y=.raw v)→OI N y (.sl t xs)→okEs t 4→IsFms us xs→dfr (.sl t xs)→∃ d,OK (fun b=>N b≠none) d 4 N y
 | 0,_,h=>by omega
 | k+1,us,hk=>by
  rintro y t xs ⟨v,rfl⟩ ho hes hxs hd
  simp only[dfr] at hd
  cases ho with
  | nil _ h=>exact⟨0,.inr rfl⟩
  | sl g cap _ _ cs hcap hlen hcl hs hst hroom h =>
   have h3:=zGs hes hcap
   rw[h3] at hroom
   have hs3:∀ x∈xs,x.cells.length=4:=fun x hx=>by rw[hs x hx,h3]
   have hpos:0<xs.length:=by
    rcases hd.1 with hn | hp
    ·rw[hcap] at hn; cases hn
    ·exact hp.1
   have hcc:=Nat.mul_le_mul_right 4 hcl
   have part:∀ i,i<xs.length→∃ r0 r1 r2 r3 o n us' sub' t' xs' t'' xs'',cs[4*i]?=some r0∧cs[4*i+1]?=some r1∧cs[4*i+2]?=some r2∧cs[4*i+3]?=some r3∧Fm.mk o n us' sub'∈us∧r0=.raw (.int .u8 o)∧r1=.raw (.string n) ∧
     (OI N r2 (.sl t' xs')∧okEs t' 3∧IsTms us' xs'∧dfr (.sl t' xs'))∧OI N r3 (.sl t'' xs'')∧okEs t'' 4∧IsFms sub' xs''∧dfr (.sl t'' xs''):=fun i hi=>by
    obtain⟨x,hx⟩:=yQ3 hi
    obtain⟨⟨o,n,us',sub'⟩,ha,hax⟩:=hxs.mem hx
    have hdx:=yK7 hd.2.1 (lMg hx)
    obtain⟨t',xs',t'',xs'',rfl,_,ht',hxs',ht'',hxs''⟩:=hax.mk
    obtain⟨r0,hr0⟩:=yQ3 (show 4*i<cs.length by omega)
    obtain⟨r1,hr1⟩:=yQ3 (show 4*i+1<cs.length by omega)
    obtain⟨r2,hr2⟩:=yQ3 (show 4*i+2<cs.length by omega)
    obtain⟨r3,hr3⟩:=yQ3 (show 4*i+3<cs.length by omega)
    have e0:=yV7 hs3 hx (show 0<4 by omega)
    have e1:=yV7 hs3 hx (show 1<4 by omega)
    have e2:=yV7 hs3 hx (show 2<4 by omega)
    have e3:=yV7 hs3 hx (show 3<4 by omega)
    simp only[dfr] at hdx
    exact⟨r0,r1,r2,r3,o,n,us',sub',t',xs',t'',xs'',hr0,hr1,hr2,hr3,lMg ha,(h _ _ _ hr0 e0).raw_eq,(h _ _ _ hr1 e1).raw_eq,⟨h _ _ _ hr2 e2,ht',hxs',yK7 hdx.1 (by simp)⟩,h _ _ _ hr3 e3,ht'',hxs'',yK7 hdx.1 (by simp)⟩
   have each:∀ i,i<xs.length→∃ d,(∀ y,cs[i*4+2]?=some y→OK (fun b=>N b≠none) d 3 N y)∧∀ y,cs[i*4+3]?=some y→OK (fun b=>N b≠none) d 4 N y:=fun i hi=>by
    obtain⟨r0,r1,r2,r3,o,n,us',sub',t',xs',t'',xs'',_,_,k2,k3,km,_,_,⟨a1,a2,a3,a4⟩,b1,b2,b3,b4⟩:=part i hi
    obtain⟨w,hw⟩:=yYv (hraw _ _ hst r2 (lMg k2)) a1
    obtain⟨w',hw'⟩:=yYv (hraw _ _ hst r3 (lMg k3)) b1
    obtain⟨d,hd⟩:=xVw hraw _ us' (Nat.lt_succ_self _) _ _ _ ⟨w,hw⟩ a1 a2 a3 a4
    obtain⟨e,he⟩:=zGq hraw k sub' (by have:=lSm km; simp at this; omega) _ _ _ ⟨w',hw'⟩ b1 b2 b3 b4
    refine⟨d+e,fun y hy=>?_,fun y hy=>?_⟩
    ·rw[Nat.mul_comm,k2] at hy; cases hy
     exact hd.le (by omega)
    ·rw[Nat.mul_comm,k3] at hy; cases hy
     exact he.le (by omega)
   obtain⟨d,hd'⟩:=zZ9 (P:=fun d i=>(∀ y,cs[i*4+2]?=some y→OK (fun b=>N b≠none) d 3 N y)∧∀ y,cs[i*4+3]?=some y→OK (fun b=>N b≠none) d 4 N y) (fun d i h=>⟨fun y hy=>(h.1 y hy).up,fun y hy=>(h.2 y hy).up⟩) _ each
   obtain⟨r0,_,_,_,o,_,_,_,_,_,_,_,k0,_,_,_,_,q0,_⟩:=part 0 hpos
   refine⟨d+1,.inr ⟨g,xs.length,cap,cs,.raw (.int .u8 o),rfl,(by show N g≠none; rw[hst]; exact fun h=>by cases h),hlen,hcl,hst,hroom,by rw[← q0]; exact k0,⟨o,rfl⟩,fun i hi=>⟨fun j hj=>?_,fun j y s' hy hn=>by
    rcases nx4 hn with⟨rfl,rfl⟩ | ⟨rfl,rfl⟩
    ·exact (hd' i hi).1 y hy
    ·exact (hd' i hi).2 y hy⟩⟩⟩
   obtain⟨r0,r1,r2,r3,o,n,us',sub',t',xs',t'',xs'',k0,k1,k2,k3,_,q0,q1,⟨a1,_⟩,b1,_⟩:=part i hi
   obtain⟨w,hw⟩:=yYv (hraw _ _ hst r2 (lMg k2)) a1
   obtain⟨w',hw'⟩:=yYv (hraw _ _ hst r3 (lMg k3)) b1
   rw[Nat.mul_comm]
   match j,hj with
   | 0,_=>exact⟨r0,k0,by rw[q0]; exact⟨rfl,fun h=>by cases h⟩⟩
   | 1,_=>exact⟨r1,k1,by rw[q1]; exact⟨rfl,fun h=>by cases h⟩⟩
   | 2,_ =>
    refine⟨r2,k2,?_⟩
    subst hw
    refine⟨?_,fun h=>by cases h⟩
    cases a1<;>rfl
   | 3,_ =>
    refine⟨r3,k3,?_⟩
    subst hw'
    refine⟨?_,fun h=>by cases h⟩
    cases b1<;>rfl
end Go.Proofs.Tryz
namespace Go.Proofs.Tryz
open Go Go.Iv
def cmpN (a b:Nat):Int:=if a<b then -1 else if b<a then 1 else 0
noncomputable def cmpB (a b:ByteArray):Int:=if Op.bytesLess a.data.toList b.data.toList=true then -1 else if Op.bytesLess b.data.toList a.data.toList=true then 1 else 0
def lexI (x y:Int):Int:=if x=0 then y else x
mutual
noncomputable def yWn:Tm→Tm→Int
 | .mk v n us,.mk v' n' us'=>if v=v' then lexI (cmpB n n') (lexI (cmpN us.length us'.length) (yKb us us')) else if v=true then -1 else 1
noncomputable def yKb:List Tm→List Tm→Int
 | a::l,b::m=>lexI (yWn a b) (yKb l m)
 | _,_=>0
end
mutual
noncomputable def yXk:Fm→Fm→Int
 | .mk o n us sub,.mk o' n' us' sub'=>lexI (cmpN o o') (lexI (cmpB n n') (lexI (lexI (cmpN us.length us'.length) (yKb us us')) (lexI (cmpN sub.length sub'.length) (yGd sub sub'))))
noncomputable def yGd:List Fm→List Fm→Int
 | a::l,b::m=>lexI (yXk a b) (yGd l m)
 | _,_=>0
end
structure Cp {α:Type}(f:α→α→Int)(a:α):Prop where
 eq:∀ b,f a b=0↔a=b
 neg:∀ b,f b a = - f a b
 tr:∀ b c,f a b<0→f b c<0→f a c<0
theorem yWj {x y:Int}:lexI x y=0↔x=0∧y=0:=by
 unfold lexI; split
 ·rename_i h; simp[h]
 ·rename_i h; simp[h]
theorem yGr (x y:Int):lexI (-x) (-y) = - lexI x y:=by
 unfold lexI
 by_cases h:x=0
 ·simp[h]
 ·rw[if_neg (by omega),if_neg h]
theorem zU1 {x y:Int}:lexI x y<0↔x<0∨x=0∧y<0:=by
 unfold lexI; split
 ·rename_i h; simp[h]
 ·rename_i h; simp[h]
theorem xZd {p q r p' q' r':Int}(h1:p<0→q<0→r<0)(h2:p=0→q=r)(h3:q=0→p=r)(h4:p'<0→q'<0→r'<0)(h:lexI p p'<0)(k:lexI q q'<0):lexI r r'<0:=by
 rw[zU1] at *
 rcases h with h | ⟨h,h'⟩
 ·rcases k with k | ⟨k,_⟩
  ·exact .inl (h1 h k)
  ·exact .inl (by rw[← h3 k]; exact h)
 ·rcases k with k | ⟨k,k'⟩
  ·exact .inl (by rw[← h2 h]; exact k)
  ·exact .inr ⟨by rw[← h2 h]; exact k,h4 h' k'⟩
theorem zVa (a:Nat):Cp cmpN a:=by
 refine⟨fun b=>?_,fun b=>?_,fun b c=>?_⟩<;>unfold cmpN<;>repeat' split
 all_goals (first | omega | simp_all | (constructor<;>intro<;>omega))
open Classical in
theorem zX0 {a b:ByteArray}:cmpB a b=if ltN a b then -1 else if ltN b a then 1 else 0:=by
 unfold cmpB
 congr 1
 ·exact propext zJ9
 ·congr 1; exact propext zJ9
open Classical in
theorem yWc (a:ByteArray):Cp cmpB a:=by
 refine⟨fun b=>?_,fun b=>?_,fun b c=>?_⟩
 ·rw[zX0]
  by_cases h1:ltN a b
  ·rw[if_pos h1]
   exact⟨fun h=>by omega,fun h=>absurd h1 (by rw[h]; exact xJu b)⟩
  ·rw[if_neg h1]
   by_cases h2:ltN b a
   ·rw[if_pos h2]
    exact⟨fun h=>by omega,fun h=>absurd h2 (by rw[h]; exact xJu b)⟩
   ·rw[if_neg h2]
    exact⟨fun _=>Classical.byContradiction fun hne=>h2 (xZ7 h1 hne),fun _=>rfl⟩
 ·rw[zX0,zX0]
  by_cases h1:ltN a b
  ·rw[if_pos h1,if_neg (wZ5 h1),if_pos h1]; rfl
  ·by_cases h2:ltN b a
   ·rw[if_pos h2,if_neg h1,if_pos h2]
   ·rw[if_neg h1,if_neg h2,if_neg h2,if_neg h1]; rfl
 ·rw[zX0,zX0,zX0]
  have key:∀ x y:ByteArray,(if ltN x y then (-1:Int) else if ltN y x then 1 else 0)<0↔ltN x y:=fun x y=>by
   by_cases h1:ltN x y
   ·simp[h1]
   ·by_cases h2:ltN y x<;>simp[h1,h2]
  rw[key,key,key]
  exact xZ6
section
variable {α:Type}{f:α→α→Int}{g:List α→List α→Int}(g0:g [] []=0)(g1:∀ a b l m,g (a::l) (b::m)=lexI (f a b) (g l m))
include g0 g1
theorem xJv:∀ (l:List α),(∀ a∈l,∀ b,f a b=0↔a=b)→∀ m,l.length=m.length→(g l m=0↔l=m)
 | [],_,m,hm=>by
  obtain rfl:m=[]:=List.eq_nil_of_length_eq_zero hm.symm
  simp[g0]
 | a::l,hc,b::m,hm=>by
  rw[g1,yWj,hc a (by simp),xJv l (fun b hb=>hc b (by simp[hb])) m (by simpa using hm),List.cons.injEq]
theorem xW7:∀ (l:List α),(∀ a∈l,∀ b,f b a = - f a b)→∀ m,l.length=m.length→g m l = - g l m
 | [],_,m,hm=>by
  obtain rfl:m=[]:=List.eq_nil_of_length_eq_zero hm.symm
  simp[g0]
 | a::l,hc,b::m,hm=>by
  rw[g1,g1,hc a (by simp),xW7 l (fun b hb=>hc b (by simp[hb])) m (by simpa using hm),yGr]
theorem wZa (he:∀ a b,f a b=0↔a=b):∀ (l:List α),(∀ a∈l,∀ b c,f a b<0→f b c<0→f a c<0)→∀ m n,l.length=m.length→m.length=n.length→g l m<0→g m n<0→g l n<0
 | [],_,m,n,hm,hn,h,_=>by
  obtain rfl:m=[]:=List.eq_nil_of_length_eq_zero hm.symm
  rw[g0] at h; omega
 | a::l,hc,b::m,c::n,hm,hn,h,k=>by
  rw[g1] at h k ⊢
  exact xZd (hc a (by simp) b c) (fun e=>by rw[(he a b).1 e]) (fun e=>by rw[(he b c).1 e]) (wZa he l (fun b hb=>hc b (by simp[hb])) m n (by simpa using hm) (by simpa using hn)) h k
end
def lenL {α:Type}(g:List α→List α→Int)(l m:List α):Int:=lexI (cmpN l.length m.length) (g l m)
theorem yXd {a b:Nat}:cmpN a b=0↔a=b:=(zVa a).eq b
section
variable {α:Type}{f:α→α→Int}{g:List α→List α→Int}(g0:g [] []=0)(g1:∀ a b l m,g (a::l) (b::m)=lexI (f a b) (g l m))
include g0 g1
theorem zKg {l:List α}(h:∀ a∈l,∀ b,f a b=0↔a=b)(m:List α):lenL g l m=0↔l=m:=by
 unfold lenL
 rw[yWj,yXd]
 constructor
 ·rintro⟨h1,h2⟩; exact (xJv g0 g1 l h m h1).1 h2
 ·rintro rfl; exact⟨rfl,(xJv g0 g1 l h l rfl).2 rfl⟩
theorem zU3 {l:List α}(h:∀ a∈l,∀ b,f b a = - f a b)(m:List α):lenL g m l = - lenL g l m:=by
 unfold lenL
 rw[(zVa l.length).neg]
 by_cases hl:l.length=m.length
 ·rw[xW7 g0 g1 l h m hl,yGr]
 ·have:¬ cmpN l.length m.length=0:=fun h=>hl (yXd.1 h)
  unfold lexI
  rw[if_neg (by omega),if_neg this]
theorem xJy (he:∀ a b,f a b=0↔a=b){l:List α}(h:∀ a∈l,∀ b c,f a b<0→f b c<0→f a c<0)(m n:List α)(h1:lenL g l m<0)(h2:lenL g m n<0):lenL g l n<0:=by
 unfold lenL at *
 rw[zU1] at h1 h2
 by_cases hl:l.length=m.length∧m.length=n.length
 ·obtain⟨hl,hm⟩:=hl
  have e1:¬ cmpN l.length m.length<0:=by rw[yXd.2 hl]; omega
  have e2:¬ cmpN m.length n.length<0:=by rw[yXd.2 hm]; omega
  have e3:cmpN l.length n.length=0:=yXd.2 (hl.trans hm)
  rw[zU1]
  exact .inr ⟨e3,wZa g0 g1 he l h m n hl hm (h1.resolve_left e1).2 (h2.resolve_left e2).2⟩
 ·rw[zU1]
  left
  rcases h1 with h1 | ⟨h1,_⟩
  ·rcases h2 with h2 | ⟨h2,_⟩
   ·exact (zVa _).tr _ _ h1 h2
   ·rw[← yXd.1 h2]; exact h1
  ·rcases h2 with h2 | ⟨h2,_⟩
   ·rw[yXd.1 h1]; exact h2
   ·exact absurd ⟨yXd.1 h1,yXd.1 h2⟩ hl
end
theorem yV1:yKb [] []=0:=by simp only[yKb]
theorem yV0 (a b:Tm)(l m:List Tm):yKb (a::l) (b::m)=lexI (yWn a b) (yKb l m):=by simp only[yKb]
theorem zQ1:yGd [] []=0:=by simp only[yGd]
theorem zQ0 (a b:Fm)(l m:List Fm):yGd (a::l) (b::m)=lexI (yXk a b) (yGd l m):=by simp only[yGd]
theorem yGz (v v':Bool)(n n':ByteArray)(us us':List Tm):yWn (.mk v n us) (.mk v' n' us')=if v=v' then lexI (cmpB n n') (lenL yKb us us') else if v=true then -1 else 1:=by simp only[yWn,lenL]
theorem yU0 (o o':Nat)(n n':ByteArray)(us us':List Tm)(sub sub':List Fm):yXk (.mk o n us sub) (.mk o' n' us' sub')=lexI (cmpN o o') (lexI (cmpB n n') (lexI (lenL yKb us us') (lenL yGd sub sub'))):=by simp only[yXk,lenL]
theorem xUp {p:Tm→Prop}(h:∀ v n us,(∀ a∈us,p a)→p (.mk v n us))(t:Tm):p t:=by
 have key:∀ (k:Nat) (t:Tm),SizeOf.sizeOf t<k→p t:=fun k=>by
  induction k with
  | zero=>intro t ht; omega
  | succ k ih =>
   rintro⟨v,n,us⟩ ht
   refine h v n us fun a ha=>ih a ?_
   have:=lSm ha
   simp only[Tm.mk.sizeOf_spec] at ht
   omega
 exact key _ t (Nat.lt_succ_self _)
theorem wXb {p:Fm→Prop}(h:∀ o n us sub,(∀ a∈sub,p a)→p (.mk o n us sub))(t:Fm):p t:=by
 have key:∀ (k:Nat) (t:Fm),SizeOf.sizeOf t<k→p t:=fun k=>by
  induction k with
  | zero=>intro t ht; omega
  | succ k ih =>
   rintro⟨o,n,us,sub⟩ ht
   refine h o n us sub fun a ha=>ih a ?_
   have:=lSm ha
   simp only[Fm.mk.sizeOf_spec] at ht
   omega
 exact key _ t (Nat.lt_succ_self _)
theorem zZ5 (a b:Tm):yWn a b=0↔a=b:=by
 revert b
 refine xUp (p:=fun a=>∀ b,yWn a b=0↔a=b) (fun v n us ih b=>?_) a
 obtain⟨v',n',us'⟩:=b
 rw[yGz,Tm.mk.injEq]
 by_cases hv:v=v'
 ·rw[if_pos hv,yWj,(yWc n).eq,zKg yV1 yV0 ih]
  simp[hv]
 ·rw[if_neg hv]
  simp only[hv,false_and,iff_false]
  split<;>omega
theorem wXs (a b:Tm):yWn b a = - yWn a b:=by
 revert b
 refine xUp (p:=fun a=>∀ b,yWn b a = - yWn a b) (fun v n us ih b=>?_) a
 obtain⟨v',n',us'⟩:=b
 rw[yGz,yGz]
 by_cases hv:v=v'
 ·rw[if_pos hv,if_pos hv.symm,(yWc n).neg,zU3 yV1 yV0 ih,yGr]
 ·rw[if_neg hv,if_neg (fun h=>hv h.symm)]
  cases v<;>cases v'<;>simp_all
theorem wVn (a b c:Tm):yWn a b<0→yWn b c<0→yWn a c<0:=by
 revert b c
 refine xUp (p:=fun a=>∀ b c,yWn a b<0→yWn b c<0→yWn a c<0) (fun v n us ih b c=>?_) a
 obtain⟨v',n',us'⟩:=b
 obtain⟨v'',n'',us''⟩:=c
 rw[yGz,yGz,yGz]
 have hl:=fun (h:lexI (cmpB n n') (lenL yKb us us')<0) (k:lexI (cmpB n' n'') (lenL yKb us' us'')<0) =>
  xZd (r:=cmpB n n'') (r':=lenL yKb us us'') ((yWc n).tr n' n'') (fun e=>by rw[((yWc n).eq n').1 e]) (fun e=>by rw[((yWc n').eq n'').1 e]) (xJy yV1 yV0 zZ5 ih us' us'') h k
 cases v<;>cases v'<;>cases v''<;>simp_all
theorem zJf (a b:Fm):yXk a b=0↔a=b:=by
 revert b
 refine wXb (p:=fun a=>∀ b,yXk a b=0↔a=b) (fun o n us sub ih b=>?_) a
 obtain⟨o',n',us',sub'⟩:=b
 rw[yU0,Fm.mk.injEq,yWj,yWj,yWj,yXd,(yWc n).eq,zKg yV1 yV0 (fun a _=>zZ5 a),zKg zQ1 zQ0 ih]
theorem zVc (a b:Fm):yXk b a = - yXk a b:=by
 revert b
 refine wXb (p:=fun a=>∀ b,yXk b a = - yXk a b) (fun o n us sub ih b=>?_) a
 obtain⟨o',n',us',sub'⟩:=b
 rw[yU0,yU0,(zVa o).neg,(yWc n).neg,zU3 yV1 yV0 (fun a _=>wXs a),zU3 zQ1 zQ0 ih,yGr,yGr,yGr]
theorem zUk (a b c:Fm):yXk a b<0→yXk b c<0→yXk a c<0:=by
 revert b c
 refine wXb (p:=fun a=>∀ b c,yXk a b<0→yXk b c<0→yXk a c<0) (fun o n us sub ih b c=>?_) a
 obtain⟨o',n',us',sub'⟩:=b
 obtain⟨o'',n'',us'',sub''⟩:=c
 rw[yU0,yU0,yU0]
 refine xZd ((zVa o).tr o' o'') (fun e=>by rw[yXd.1 e]) (fun e=>by rw[yXd.1 e]) ?_
 refine xZd ((yWc n).tr n' n'') (fun e=>by rw[((yWc n).eq n').1 e]) (fun e=>by rw[((yWc n').eq n'').1 e]) ?_
 exact xZd (xJy yV1 yV0 zZ5 (fun a _=>wVn a) us' us'') (fun e=>by rw[(zKg yV1 yV0 (fun a _=>zZ5 a) us').1 e]) (fun e=>by rw[(zKg yV1 yV0 (fun a _=>zZ5 a) us'').1 e])
  (xJy zQ1 zQ0 zJf ih sub' sub'')
def SetF (l r:List Fm):Prop:=r.Pairwise (fun a b=>yXk a b<0)∧∀ f,f∈r↔f∈l
theorem zVd (a:Fm):¬ yXk a a<0:=by rw[(zJf a a).2 rfl]; omega
theorem SetF.uniq:∀ {r r':List Fm},r.Pairwise (fun a b=>yXk a b<0)→r'.Pairwise (fun a b=>yXk a b<0)→(∀ x,x∈r↔x∈r')→r=r'
 | [],r',_,_,h=>by
  cases r' with
  | nil=>rfl
  | cons b r'=>exact absurd ((h b).2 (List.mem_cons_self ..)) (by simp)
 | a::r,[],_,_,h=>absurd ((h a).1 (List.mem_cons_self ..)) (by simp)
 | a::r,b::r',h1,h2,h=>by
  have p1:=List.pairwise_cons.1 h1
  have p2:=List.pairwise_cons.1 h2
  have hab:a=b:=by
   refine Classical.byContradiction fun hne=>?_
   have ha:a∈r':=by
    rcases List.mem_cons.1 ((h a).1 (List.mem_cons_self ..)) with e | e
    ·exact absurd e hne
    ·exact e
   have hb:b∈r:=by
    rcases List.mem_cons.1 ((h b).2 (List.mem_cons_self ..)) with e | e
    ·exact absurd e.symm hne
    ·exact e
   have h3:=p1.1 b hb
   have h4:=p2.1 a ha
   rw[zVc] at h4
   omega
  subst hab
  congr 1
  refine SetF.uniq p1.2 p2.2 fun x=>?_
  constructor
  ·intro hx
   rcases List.mem_cons.1 ((h x).1 (List.mem_cons_of_mem _ hx)) with e | e
   ·subst e; exact absurd (p1.1 _ hx) (zVd _)
   ·exact e
  ·intro hx
   rcases List.mem_cons.1 ((h x).2 (List.mem_cons_of_mem _ hx)) with e | e
   ·subst e; exact absurd (p2.1 _ hx) (zVd _)
   ·exact e
theorem SetF.one {l r r':List Fm}(h:SetF l r)(h':SetF l r'):r=r':=SetF.uniq h.1 h'.1 fun x=>(h.2 x).trans (h'.2 x).symm
end Go.Proofs.Tryz
namespace Go.Proofs.Tryz
open Go Go.Iv Go.Shelf Go.RowKit
set_option maxRecDepth 4000
variable (gl:Nat→Option IV)
theorem zX4 (a b:ByteArray)(w:World):Calls prog 247 #[.string a,.string b] w fun e w'=>e=.returned (.int .i64 (Lib.compareBytes a.data.toList b.data.toList))∧w'=w:=by
 have t9:prog.underlying 9=some .string:=by kernel_rfl
 have a9:∀ w,(isAgg 9).run prog w=.ok false w:=run_isAgg_plain t9 rfl
 have t3:prog.underlying 3=some (.int .i64):=by kernel_rfl
 have a3:∀ w,(isAgg 3).run prog w=.ok false w:=run_isAgg_plain t3 rfl
 go_enter func247,(show _=_ from rfl)
 go_wp2
 rw[run_callFunc_extern func282 (by kernel_rfl) (by kernel_rfl) (by kernel_rfl) (e:=Extern.BytealgCompare.compare) (by kernel_rfl),Lib.run_compareString]
 simp only[Result.andThen]
 rw[Oper.upon_value]
 go_wp2
 go_ret
 exact⟨rfl,rfl⟩
theorem yGc:∀ x y:List UInt8,Lib.compareBytes x y=if Op.bytesLess x y=true then -1 else if Op.bytesLess y x=true then 1 else 0
 | [],[]=>by simp[Lib.compareBytes,Op.bytesLess]
 | [],_::_=>by simp[Lib.compareBytes,Op.bytesLess]
 | _::_,[]=>by simp[Lib.compareBytes,Op.bytesLess]
 | a::x,b::y=>by
  have ih:=yGc x y
  unfold Lib.compareBytes Op.bytesLess
  by_cases h1:a<b
  ·have h2:¬ b<a:=fun h=>UInt8.lt_irrefl _ (UInt8.lt_trans h1 h)
   simp[h1]
  ·by_cases h2:b<a
   ·have h3:a≠b:=by rintro rfl; exact UInt8.lt_irrefl _ h2
    simp[h1,h2,h3]
   ·have:a=b:=UInt8.le_antisymm (UInt8.not_lt.1 h2) (UInt8.not_lt.1 h1)
    subst this
    simp[h1,ih]
theorem zVv (a b:ByteArray)(st:ISt):ICall prog gl 247 [.raw (.string a),.raw (.string b)] st (fun r st'=>r=.raw (.int .i64 (cmpB a b))∧st'=st):=by
 intro B X rs hg hst hv
 have hr:rs=[.string a,.string b]:=by
  match rs,hv with
  | [r,r'],hv=>rw[V.raw_inv (hv.2 0 r _ rfl rfl),V.raw_inv (hv.2 1 r' _ rfl rfl)]
  | [],hv=>cases hv.1
  | [_],hv=>cases hv.1
  | _::_::_::_,hv=>cases hv.1
 subst hr
 refine Calls.mono (zX4 a b X.w) ?_
 rintro e w' ⟨rfl,rfl⟩
 refine⟨_,rfl,X,.raw (.int .i64 (cmpB a b)),rfl,hg,Ext.refl X,?_,rfl,hst⟩
 rw[yGc]
 exact .raw _ trivial
theorem xXj (a b:ByteArray)(st:ISt):ICall prog gl 178 [.raw (.string a),.raw (.string b)] st (fun r st'=>r=.raw (.int .i64 (cmpB a b))∧st'=st):=by
 refine iI func178 rfl rfl (by kernel_rfl) ?_
 simp(config:=zzC)only[go_sem]
 refine (zVv gl a b _).mono ?_
 rintro _ _ ⟨rfl,rfl⟩
 simp(config:=zzC)only[go_sem]
 exact yQ0 ⟨rfl,rfl⟩
theorem zWj (a:Nat)(st:ISt):ICall prog gl 246 [.raw (.int .u8 a)] st (fun r st'=>r=.raw (.bool false)∧st'=st):=by
 refine iI func246 rfl rfl (by kernel_rfl) ?_
 simp(config:=zzC)only[go_sem,show decide ((a:Int)=(a:Int))=true from dEt rfl]
 exact yQ0 ⟨rfl,rfl⟩
theorem xYc (a b:Nat)(st:ISt):ICall prog gl 177 [.raw (.int .u8 a),.raw (.int .u8 b)] st (fun r st'=>r=.raw (.int .i64 (cmpN a b))∧st'=st):=by
 refine iI func177 rfl rfl (by kernel_rfl) ?_
 simp(config:=zzC)only[go_sem]
 refine (zWj gl a _).mono ?_
 rintro _ _ ⟨rfl,rfl⟩
 simp(config:=zzC)only[go_sem]
 refine (zWj gl b _).mono ?_
 rintro _ _ ⟨rfl,rfl⟩
 unfold cmpN
 by_cases h1:a<b
 ·simp(config:=zzC)only[go_sem,lt_i h1]
  exact yQ0 ⟨by rw[if_pos h1],rfl⟩
 ·by_cases h2:b<a
  ·simp(config:=zzC)only[go_sem,yQm h1,lt_i h2]
   exact yQ0 ⟨by rw[if_neg h1,if_pos h2],rfl⟩
  ·simp(config:=zzC)only[go_sem,yQm h1,yQm h2]
   exact yQ0 ⟨by rw[if_neg h1,if_neg h2],rfl⟩
theorem xWe (a:Nat)(st:ISt):ICall prog gl 269 [.raw (.int .i64 a)] st (fun r st'=>r=.raw (.bool false)∧st'=st):=by
 refine iI func269 rfl rfl (by kernel_rfl) ?_
 simp(config:=zzC)only[go_sem,show decide ((a:Int)=(a:Int))=true from dEt rfl]
 exact yQ0 ⟨rfl,rfl⟩
theorem xWf (a b:Nat)(st:ISt):ICall prog gl 226 [.raw (.int .i64 a),.raw (.int .i64 b)] st (fun r st'=>r=.raw (.int .i64 (cmpN a b))∧st'=st):=by
 refine iI func226 rfl rfl (by kernel_rfl) ?_
 simp(config:=zzC)only[go_sem]
 refine (xWe gl a _).mono ?_
 rintro _ _ ⟨rfl,rfl⟩
 simp(config:=zzC)only[go_sem]
 refine (xWe gl b _).mono ?_
 rintro _ _ ⟨rfl,rfl⟩
 unfold cmpN
 by_cases h1:a<b
 ·simp(config:=zzC)only[go_sem,lt_i h1]
  exact yQ0 ⟨by rw[if_pos h1],rfl⟩
 ·by_cases h2:b<a
  ·simp(config:=zzC)only[go_sem,yQm h1,lt_i h2]
   exact yQ0 ⟨by rw[if_neg h1,if_pos h2],rfl⟩
  ·simp(config:=zzC)only[go_sem,yQm h1,yQm h2]
   exact yQ0 ⟨by rw[if_neg h1,if_neg h2],rfl⟩
theorem wJs {t:Tm}{x:IV}(h:IsTm t x):∃ v n tg xs,x=.agg [.raw (.bool v),.raw (.string n),.sl tg xs]:=by
 obtain⟨v,n,us⟩:=t
 obtain⟨tg,xs,rfl,_⟩:=h.mk
 exact⟨_,_,_,_,rfl⟩
theorem zQr {α:Type}{f:α→α→Int}{g:List α→List α→Int}(g0:g [] []=0)(g1:∀ a b l m,g (a::l) (b::m)=lexI (f a b) (g l m)):∀ (l m l' m':List α),l.length=m.length→g (l++l') (m++m')=lexI (g l m) (g l' m')
 | [],[],l',m',_=>by rw[g0]; simp[lexI]
 | a::l,b::m,l',m',h=>by
  rw[List.cons_append,List.cons_append,g1,g1,zQr g0 g1 l m l' m' (by simpa using h)]
  unfold lexI
  by_cases h1:f a b=0
  ·simp[h1]
  ·simp[h1]
 | [],_::_,_,_,h=>by simp at h
 | _::_,[],_,_,h=>by simp at h
theorem i0 (x:Int)(h:x=0):decide (x=0)=true:=dEt h
theorem i1 (x:Int)(h:¬ x=0):decide (x=0)=false:=dEf h
def CmpT (a:Tm):Prop:=∀ (b:Tm) (x y:IV) (_:IsTm a x) (_:IsTm b y) (st:ISt),ICall prog gl 180 [x,y] st (fun r st'=>r=.raw (.int .i64 (yWn a b))∧st'=st)
def CmpF (a:Fm):Prop:=∀ (b:Fm) (x y:IV) (_:IsFm a x) (_:IsFm b y) (st:ISt),ICall prog gl 130 [x,y] st (fun r st'=>r=.raw (.int .i64 (yXk a b))∧st'=st)
theorem xY1 (us:List Tm)(IH:∀ a∈us,CmpT gl a)(ws:List Tm)(t t':Tag)(xs ys:List IV)(ht:okEs t 3)(ht':okEs t' 3)(ha:IsTms us xs)(hb:IsTms ws ys)(st:ISt) :
  ICall prog gl 179 [.sl t xs,.sl t' ys,.fn (.func 180) [] []] st (fun r st'=>r=.raw (.int .i64 (lenL yKb us ws))∧st'=st):=by
 refine iI func179 rfl rfl (by kernel_rfl) ?_
 simp(config:=zzC)only[go_sem,ha.len,hb.len]
 intro hla hlb
 refine (xWf gl us.length ws.length _).mono ?_
 rintro _ st ⟨rfl,rfl⟩
 unfold lenL
 by_cases h0:cmpN us.length ws.length=0
 ·have hlen:=yXd.1 h0
  simp(config:=zzC)only[go_sem,i0 _ h0,ha.len]
  intro _
  refine LoopC.ctr us.length (fun k fr st' ds=>yKb (us.take k) (ws.take k)=0∧fr 0=.iv (.sl t xs)∧fr 1=.iv (.sl t' ys)∧fr 2=.iv (.fn (.func 180) [] [])∧fr 19=.iv (.raw (.int .i64 us.length))∧fr 20=.iv (.raw (.int .i64 k))∧st'=st∧ds=[]) ?_ ?_ ?_
  ·simp(config:=zzC)only[go_sem]
   exact⟨yV1,rfl⟩
  ·rintro k fr st1 _ hlt ⟨hn,f0,f1,f2,f19,f20,rfl,rfl⟩
   obtain⟨a,hka⟩:=yQ3 hlt
   obtain⟨b,hkb⟩:=yQ3 (l:=ws) (k:=k) (by omega)
   obtain⟨x,hkx,hx⟩:=ha.get hka
   obtain⟨y,hky,hy⟩:=hb.get hkb
   have hcall:=IH a (lMg hka) b x y hx hy st1
   have htl:(us.take k).length=(ws.take k).length:=by rw[List.length_take,List.length_take]; omega
   obtain⟨x1,x2,x3,x4,rfl⟩:=wJs hx
   obtain⟨y1,y2,y3,y4,rfl⟩:=wJs hy
   simp(config:=zzC)only[go_sem,f0,f1,f2,f19,f20,lt_i hlt,yQ2 ht,yQ2 ht',iNn,hkx,hky,fits]
   refine hcall.mono ?_
   rintro _ _ ⟨rfl,rfl⟩
   by_cases hc:yWn a b=0
   ·simp(config:=zzC)only[go_sem,i0 _ hc,f0,f1,f2,f19,f20,yQa hlt (show us.length≤281474976710656 by omega)]
    rw[yQ4 hka,yQ4 hkb,zQr yV1 yV0 _ _ _ _ htl,hn,yV0,yV1,hc]
    simp[lexI]
   ·simp(config:=zzC)only[go_sem,i1 _ hc]
    refine yQ0 ⟨?_,rfl⟩
    rw[h0]
    have h2:yKb us ws=yWn a b:=by
     conv=>lhs; rw[← List.take_append_drop k us,← List.take_append_drop k ws]
     rw[List.drop_eq_getElem_cons hlt,List.drop_eq_getElem_cons (show k<ws.length by omega),zQr yV1 yV0 _ _ _ _ htl,hn,yV0,(lGs hka).2,(lGs hkb).2]
     simp[lexI,hc]
    rw[h2]; simp[lexI]
  ·rintro fr st1 _ ⟨hn,f0,f1,f2,f19,f20,rfl,rfl⟩
   rw[lTl,show ws.take us.length=ws by rw[hlen,lTl]] at hn
   simp(config:=zzC)only[go_sem,f19,f20,yQm (nLi _)]
   exact yQ0 ⟨by rw[h0,hn]; simp[lexI],rfl⟩
 ·simp(config:=zzC)only[go_sem,i1 _ h0]
  exact yQ0 ⟨by simp[lexI,h0],rfl⟩
theorem xX7 (v:Bool)(n:ByteArray)(us:List Tm)(IH:∀ a∈us,CmpT gl a):CmpT gl (.mk v n us):=by
 rintro⟨w,m,ws⟩ x y hx hy st
 obtain⟨tx,cx,rfl,htx,hcx⟩:=hx.mk
 obtain⟨ty,cy,rfl,hty,hcy⟩:=hy.mk
 have hl:=fun st=>xY1 gl us IH ws tx ty cx cy htx hty hcx hcy st
 simp only[yWn]
 refine iI func180 rfl rfl (by kernel_rfl) ?_
 by_cases hv:v=w
 ·subst hv
  simp(config:=zzC)only[go_sem,beq_self_eq_true]
  refine (xXj gl n m _).mono ?_
  rintro _ _ ⟨rfl,rfl⟩
  by_cases h0:cmpB n m=0
  ·simp(config:=zzC)only[go_sem,i0 _ h0]
   refine (hl _).mono ?_
   rintro _ _ ⟨rfl,rfl⟩
   simp(config:=zzC)only[go_sem]
   exact yQ0 ⟨by simp[lexI,h0,lenL],rfl⟩
  ·simp(config:=zzC)only[go_sem,i1 _ h0]
   exact yQ0 ⟨by simp[lexI,h0],rfl⟩
 ·cases v<;>cases w<;>first | exact absurd rfl hv | skip
  all_goals
   simp(config:=zzC)only[go_sem,beq_eq_false_iff_ne.2 hv]
   exact yQ0 ⟨by simp,rfl⟩
theorem zV9:∀ (k:Nat)(t:Tm),SizeOf.sizeOf t<k→CmpT gl t
 | 0,t,h=>by omega
 | k+1,.mk v n us,h=>xX7 gl v n us (fun a ha=>zV9 k a (by
   have:=lSm ha
   simp at h; omega))
theorem wXt (t:Tm):CmpT gl t:=zV9 gl _ t (Nat.lt_succ_self _)
theorem wVo (us:List Fm)(IH:∀ a∈us,CmpF gl a)(ws:List Fm)(t t':Tag)(xs ys:List IV)(ht:okEs t 4)(ht':okEs t' 4)(ha:IsFms us xs)(hb:IsFms ws ys)(st:ISt) :
  ICall prog gl 181 [.sl t xs,.sl t' ys,.fn (.func 130) [] []] st (fun r st'=>r=.raw (.int .i64 (lenL yGd us ws))∧st'=st):=by
 refine iI func181 rfl rfl (by kernel_rfl) ?_
 simp(config:=zzC)only[go_sem,ha.len,hb.len]
 intro hla hlb
 refine (xWf gl us.length ws.length _).mono ?_
 rintro _ st ⟨rfl,rfl⟩
 unfold lenL
 by_cases h0:cmpN us.length ws.length=0
 ·have hlen:=yXd.1 h0
  simp(config:=zzC)only[go_sem,i0 _ h0,ha.len]
  intro _
  refine LoopC.ctr us.length (fun k fr st' ds=>yGd (us.take k) (ws.take k)=0∧fr 0=.iv (.sl t xs)∧fr 1=.iv (.sl t' ys)∧fr 2=.iv (.fn (.func 130) [] [])∧fr 19=.iv (.raw (.int .i64 us.length))∧fr 20=.iv (.raw (.int .i64 k))∧st'=st∧ds=[]) ?_ ?_ ?_
  ·simp(config:=zzC)only[go_sem]
   exact⟨zQ1,rfl⟩
  ·rintro k fr st1 _ hlt ⟨hn,f0,f1,f2,f19,f20,rfl,rfl⟩
   obtain⟨a,hka⟩:=yQ3 hlt
   obtain⟨b,hkb⟩:=yQ3 (l:=ws) (k:=k) (by omega)
   obtain⟨x,hkx,hx⟩:=ha.get hka
   obtain⟨y,hky,hy⟩:=hb.get hkb
   have hcall:=IH a (lMg hka) b x y hx hy st1
   have htl:(us.take k).length=(ws.take k).length:=by rw[List.length_take,List.length_take]; omega
   obtain⟨x1,x2,x3,x4,x5,x6,rfl⟩:=hx.agg
   obtain⟨y1,y2,y3,y4,y5,y6,rfl⟩:=hy.agg
   simp(config:=zzC)only[go_sem,f0,f1,f2,f19,f20,lt_i hlt,yQ2 ht,yQ2 ht',iNn,hkx,hky,fits]
   refine hcall.mono ?_
   rintro _ _ ⟨rfl,rfl⟩
   by_cases hc:yXk a b=0
   ·simp(config:=zzC)only[go_sem,i0 _ hc,f0,f1,f2,f19,f20,yQa hlt (show us.length≤281474976710656 by omega)]
    rw[yQ4 hka,yQ4 hkb,zQr zQ1 zQ0 _ _ _ _ htl,hn,zQ0,zQ1,hc]
    simp[lexI]
   ·simp(config:=zzC)only[go_sem,i1 _ hc]
    refine yQ0 ⟨?_,rfl⟩
    rw[h0]
    have h2:yGd us ws=yXk a b:=by
     conv=>lhs; rw[← List.take_append_drop k us,← List.take_append_drop k ws]
     rw[List.drop_eq_getElem_cons hlt,List.drop_eq_getElem_cons (show k<ws.length by omega),zQr zQ1 zQ0 _ _ _ _ htl,hn,zQ0,(lGs hka).2,(lGs hkb).2]
     simp[lexI,hc]
    rw[h2]; simp[lexI]
  ·rintro fr st1 _ ⟨hn,f0,f1,f2,f19,f20,rfl,rfl⟩
   rw[lTl,show ws.take us.length=ws by rw[hlen,lTl]] at hn
   simp(config:=zzC)only[go_sem,f19,f20,yQm (nLi _)]
   exact yQ0 ⟨by rw[h0,hn]; simp[lexI],rfl⟩
 ·simp(config:=zzC)only[go_sem,i1 _ h0]
  exact yQ0 ⟨by simp[lexI,h0],rfl⟩
theorem xX8 (o:Nat)(n:ByteArray)(us:List Tm)(sub:List Fm)(IH:∀ a∈sub,CmpF gl a):CmpF gl (.mk o n us sub):=by
 rintro⟨w,m,ws,sub'⟩ x y hx hy st
 obtain⟨t1,x1,t2,x2,rfl,_,e1,i1',e2,i2⟩:=hx.mk
 obtain⟨t3,x3,t4,x4,rfl,_,e3,i3,e4,i4⟩:=hy.mk
 have hl1:=fun st=>xY1 gl us (fun a _=>wXt gl a) ws t1 t3 x1 x3 e1 e3 i1' i3 st
 have hl2:=fun st=>wVo gl sub IH sub' t2 t4 x2 x4 e2 e4 i2 i4 st
 simp only[yXk]
 refine iI func130 rfl rfl (by kernel_rfl) ?_
 simp(config:=zzC)only[go_sem]
 refine (xYc gl o w _).mono ?_
 rintro _ _ ⟨rfl,rfl⟩
 by_cases h0:cmpN o w=0
 ·simp(config:=zzC)only[go_sem,i0 _ h0]
  refine (xXj gl n m _).mono ?_
  rintro _ _ ⟨rfl,rfl⟩
  by_cases h1:cmpB n m=0
  ·simp(config:=zzC)only[go_sem,i0 _ h1]
   refine (hl1 _).mono ?_
   rintro _ _ ⟨rfl,rfl⟩
   by_cases h2:lenL yKb us ws=0
   ·simp(config:=zzC)only[go_sem,i0 _ h2]
    refine (hl2 _).mono ?_
    rintro _ _ ⟨rfl,rfl⟩
    simp(config:=zzC)only[go_sem]
    refine yQ0 ⟨?_,rfl⟩
    unfold lenL at h2 ⊢
    rw[h0,h1,h2]; simp[lexI]
   ·simp(config:=zzC)only[go_sem,i1 _ h2]
    refine yQ0 ⟨?_,rfl⟩
    unfold lenL at h2 ⊢
    rw[h0,h1]
    generalize lexI (cmpN us.length ws.length) (yKb us ws)=q at h2 ⊢
    simp[lexI,h2]
  ·simp(config:=zzC)only[go_sem,i1 _ h1]
   exact yQ0 ⟨by rw[h0]; simp[lexI,h1],rfl⟩
 ·simp(config:=zzC)only[go_sem,i1 _ h0]
  exact yQ0 ⟨by simp[lexI,h0],rfl⟩
theorem zVb:∀ (k:Nat)(t:Fm),SizeOf.sizeOf t<k→CmpF gl t
 | 0,t,h=>by omega
 | k+1,.mk o n us sub,h=>xX8 gl o n us sub (fun a ha=>zVb k a (by
   have:=lSm ha
   simp at h; omega))
theorem xX9 (t:Fm):CmpF gl t:=zVb gl _ t (Nat.lt_succ_self _)
theorem wQa (a b:Fm)(x y:IV)(hx:IsFm a x)(hy:IsFm b y)(st:ISt):ICall prog gl 132 [x,y] st (fun r st'=>r=.raw (.bool (decide (yXk a b=0)))∧st'=st):=by
 have hc:=fun st=>xX9 gl a b x y hx hy st
 obtain⟨x1,x2,x3,x4,x5,x6,rfl⟩:=hx.agg
 obtain⟨y1,y2,y3,y4,y5,y6,rfl⟩:=hy.agg
 refine iI func132 rfl rfl (by kernel_rfl) ?_
 simp(config:=zzC)only[go_sem,fits]
 refine (hc _).mono ?_
 rintro _ _ ⟨rfl,rfl⟩
 simp(config:=zzC)only[go_sem]
 exact yQ0 ⟨rfl,rfl⟩
end Go.Proofs.Tryz
namespace Go.Iv
open Go
end Go.Iv
namespace Go.Proofs.Tryz
open Go Go.Iv
set_option maxRecDepth 4000
variable (gl:Nat→Option IV)
end Go.Proofs.Tryz
namespace Go.Proofs
open Go.Shelf
def Tryz.sortFL_ren:Go.Shelf.Ren:=⟨fun | 6=>129 | 15=>176 | 14=>175 | 28=>244 | 29=>245 | 20=>236 | 21=>237 | 22=>238 | 23=>239 | 24=>240 | 25=>241 | 26=>242 | 27=>243 | 46=>277 | 47=>278 | 48=>279 | 49=>280 | 50=>281 | 57=>311 | n=>n,fun | 22=>22 | 24=>27 | 25=>155 | 3=>3 | 39=>192 | 0=>0 | 53=>244 | 55=>246 | 4=>4 | 46=>237 | 45=>236 | 50=>241 | 5=>5 | 9=>9 | 66=>274 | 70=>278 | 76=>293 | 77=>263 | n=>n,fun | n=>n⟩
theorem Tryz.sortFL:Go.Proofs.SlLaysF0.n6 Tryz.prog Tryz.sortFL_ren:={
 mixed:=by kernel_rfl
 f6:=⟨Tryz.f129.name,by decide,Tryz.func129.trans (congrArg some (by kernel_rfl))⟩
 f14:=⟨Tryz.f175.name,by decide,Tryz.func175.trans (congrArg some (by kernel_rfl))⟩
 f15:=Tryz.func176.trans (congrArg some (by kernel_rfl))
 f20:=⟨Tryz.f236.name,by decide,Tryz.func236.trans (congrArg some (by kernel_rfl))⟩
 f21:=⟨Tryz.f237.name,by decide,Tryz.func237.trans (congrArg some (by kernel_rfl))⟩
 f22:=⟨Tryz.f238.name,by decide,Tryz.func238.trans (congrArg some (by kernel_rfl))⟩
 f23:=⟨Tryz.f239.name,by decide,Tryz.func239.trans (congrArg some (by kernel_rfl))⟩
 f24:=⟨Tryz.f240.name,by decide,Tryz.func240.trans (congrArg some (by kernel_rfl))⟩
 f25:=⟨Tryz.f241.name,by decide,Tryz.func241.trans (congrArg some (by kernel_rfl))⟩
 f26:=⟨Tryz.f242.name,by decide,Tryz.func242.trans (congrArg some (by kernel_rfl))⟩
 f27:=⟨Tryz.f243.name,by decide,Tryz.func243.trans (congrArg some (by kernel_rfl))⟩
 f28:=Tryz.func244.trans (congrArg some (by kernel_rfl))
 f29:=Tryz.func245.trans (congrArg some (by kernel_rfl))
 f46:=⟨Tryz.f277.name,by decide,Tryz.func277.trans (congrArg some (by kernel_rfl))⟩
 f47:=Tryz.func278.trans (congrArg some (by kernel_rfl))
 f48:=Tryz.func279.trans (congrArg some (by kernel_rfl))
 f49:=⟨Tryz.f280.name,by decide,Tryz.func280.trans (congrArg some (by kernel_rfl))⟩
 f50:=⟨Tryz.f281.name,by decide,Tryz.func281.trans (congrArg some (by kernel_rfl))⟩
 f57:=⟨Tryz.f311.name,by decide,Tryz.func311.trans (congrArg some (by kernel_rfl))⟩
 t0:=Tryz.underlying0
 a0:=Tryz.isAgg0
 z0:=Tryz.sizeOf0
 v0:=Tryz.zeroValue0
 t3:=Tryz.underlying3
 a3:=Tryz.isAgg3
 z3:=Tryz.sizeOf3
 v3:=Tryz.zeroValue3
 t4:=Tryz.underlying4
 a4:=Tryz.isAgg4
 z4:=Tryz.sizeOf4
 v4:=Tryz.zeroValue4
 t5:=Tryz.underlying5
 a5:=Tryz.isAgg5
 z5:=Tryz.sizeOf5
 v5:=Tryz.zeroValue5
 t9:=Tryz.underlying9
 a9:=Tryz.isAgg9
 z9:=Tryz.sizeOf9
 v9:=Tryz.zeroValue9
 t22:=Tryz.underlying22
 a22:=Tryz.isAgg22
 z22:=Tryz.sizeOf22
 v22:=Tryz.zeroValue22
 t25:=Tryz.underlying155
 a25:=Tryz.isAgg155
 z25:=Tryz.sizeOf155
 v25:=Tryz.zeroValue155
 t39:=Tryz.underlying192
 a39:=Tryz.isAgg192
 z39:=Tryz.sizeOf192
 v39:=Tryz.zeroValue192
 t45:=Tryz.underlying236
 a45:=Tryz.isAgg236
 z45:=Tryz.sizeOf236
 v45:=Tryz.zeroValue236
 t46:=Tryz.underlying237
 a46:=Tryz.isAgg237
 z46:=Tryz.sizeOf237
 v46:=Tryz.zeroValue237
 t50:=Tryz.underlying241
 a50:=Tryz.isAgg241
 z50:=Tryz.sizeOf241
 v50:=Tryz.zeroValue241
 t53:=Tryz.underlying244
 a53:=Tryz.isAgg244
 z53:=Tryz.sizeOf244
 v53:=Tryz.zeroValue244
 t55:=Tryz.underlying246
 a55:=Tryz.isAgg246
 z55:=Tryz.sizeOf246
 v55:=Tryz.zeroValue246
 t66:=Tryz.underlying274
 a66:=Tryz.isAgg274
 z66:=Tryz.sizeOf274
 v66:=Tryz.zeroValue274
 t70:=Tryz.underlying278
 a70:=Tryz.isAgg278
 z70:=Tryz.sizeOf278
 v70:=Tryz.zeroValue278
 t76:=Tryz.underlying293
 a76:=Tryz.isAgg293
 z76:=Tryz.sizeOf293
 v76:=Tryz.zeroValue293
 t77:=Tryz.underlying263
 a77:=Tryz.isAgg263
 z77:=Tryz.sizeOf263
 v77:=Tryz.zeroValue263 }
namespace Tryz
open Go Go.Iv
theorem xVa:tyI Tryz.prog (Tryz.sortFL_ren.t 24)=some (true,4):=by kernel_rfl
theorem wQ3 (w:World):(isAgg (Tryz.sortFL_ren.t 24)).run Tryz.prog w=.ok true w:=(yXm xVa w).1
theorem xYk (w:World):(Go.sizeOf (Tryz.sortFL_ren.t 24)).run Tryz.prog w=.ok 4 w:=(yXm xVa w).2
end Tryz
end Go.Proofs
namespace Go.Proofs.Tryz
set_option maxRecDepth 4000
open Go Go.Iv Go.Sort Go.Shelf Go.RowKit
variable (gl:Nat→Option IV)
section
variable {α:Type} [Inhabited α]{enc:α→List Value}{k:Nat}
theorem xZh (hk:∀ x,(enc x).length=k)(h0:0<k):∀ (l:List α) (t:Nat),t<l.length*k→(l.flatMap enc)[t]?=some ((enc l[t / k]!)[t % k]!)
 | [],t,h=>by simp at h
 | a::l,t,h=>by
  rw[List.flatMap_cons]
  by_cases ht:t<k
  ·rw[List.getElem?_append_left (by rw[hk]; exact ht),Nat.div_eq_of_lt ht,Nat.mod_eq_of_lt ht]
   rw[List.getElem?_eq_getElem (by rw[hk]; exact ht)]
   simp only[List.getElem!_cons_zero]
   rw[getElem!_pos _ t (by rw[hk]; exact ht)]
  ·obtain⟨s,rfl⟩:∃ s,t=s+k:=⟨t - k,by omega⟩
   rw[List.getElem?_append_right (by rw[hk]; omega),hk,Nat.add_sub_cancel,xZh hk h0 l s (by rw[List.length_cons,Nat.succ_mul] at h; omega),Nat.add_div_right _ h0,Nat.add_mod_right]
   simp
theorem xZg (hk:∀ x,(enc x).length=k):∀ l:List α,(l.flatMap enc).length=l.length*k
 | []=>by simp
 | a::l=>by rw[List.flatMap_cons,lLa,hk,xZg hk l,List.length_cons,Nat.succ_mul,Nat.add_comm]
theorem zYh (hk:∀ x,(enc x).length=k)(h0:0<k)(d:Array α):(flatK enc k d).toList=d.toList.flatMap enc:=by
 have hl:(d.toList.flatMap enc).length=d.size*k:=by rw[xZg hk,Array.length_toList]
 apply List.ext_getElem?
 intro t
 by_cases ht:t<d.size*k
 ·rw[xZh hk h0 d.toList t (by simpa using ht)]
  have h1:=get_flatK enc k d t ht
  rw[getElem!_pos _ t (by rw[size_flatK]; exact ht)] at h1
  rw[Array.getElem?_toList,Array.getElem?_eq_getElem (by rw[size_flatK]; exact ht),h1]
  congr 3
  rw[Array.getElem!_toList]
 ·rw[List.getElem?_eq_none (show (flatK enc k d).toList.length≤t by rw[Array.length_toList,size_flatK]; omega),List.getElem?_eq_none (show (d.toList.flatMap enc).length≤t by rw[hl]; omega)]
end
section
variable {α:Type} [Inhabited α]{enc:α→List Value}{k:Nat}{w:World}{b m:Nat}{dk:Array α}{os:Array Obj}
theorem xV6 {c:Array Value}{T:TypeId}{f:Nat×Nat}(hh:w.heap[b]?=some (.cells c T f)):(sortWorldK enc k w b 0 m dk os).heap[b]?=some (.cells (putCells id 0 (flatK enc k dk) c) T f):=by
 have hb:=(Array.getElem?_eq_some_iff.1 hh).1
 unfold sortWorldK
 rw[heap_grow_old _ _ (by show b<(putRowK enc k _ b 0 dk).heap.size; simpa[putRowK] using hb)]
 show (w.heap.modify b (onCells (putCells id 0 (flatK enc k dk))))[b]?=_
 rw[Array.getElem?_modify,if_pos rfl,hh]; rfl
theorem yWt {j:Nat}(hj:j≠b)(hlt:j<w.heap.size):(sortWorldK enc k w b 0 m dk os).heap[j]?=w.heap[j]?:=by
 unfold sortWorldK
 rw[heap_grow_old _ _ (by show j<(putRowK enc k _ b 0 dk).heap.size; simpa[putRowK] using hlt)]
 show (w.heap.modify b (onCells (putCells id 0 (flatK enc k dk))))[j]?=_
 rw[Array.getElem?_modify,if_neg (fun h=>hj h.symm)]
theorem zGl {F c:Array Value}(h:F.size≤c.size):(putCells id 0 F c).toList=F.toList++c.toList.drop F.size:=by
 apply List.ext_getElem?
 intro i
 unfold putCells
 rw[Array.getElem?_toList,Array.getElem?_mapIdx]
 by_cases hi:i<F.size
 ·rw[List.getElem?_append_left (by simpa using hi),Array.getElem?_toList,Array.getElem?_eq_getElem (show i<c.size by omega),Array.getElem?_eq_getElem hi]
  simp only[Option.map_some,id,Nat.zero_add,Nat.zero_le,true_and,if_pos hi,Nat.sub_zero]
  rw[getElem!_pos F i hi]
 ·rw[List.getElem?_append_right (by simpa using hi),List.getElem?_drop,Array.length_toList,Array.getElem?_toList]
  rw[show F.size+(i - F.size)=i by omega]
  cases hc:c[i]? with
  | none=>rfl
  | some v=>simp only[Option.map_some,Nat.zero_add,Nat.zero_le,true_and,if_neg hi]
end
theorem xKn {X X':WS}(he:Ext X X')(hst:∀ b,X.st b=none)(hd:X.w.drawn≤X'.w.drawn):∃ q os,X'.w=grow (X.w.drewN q) os:=by
 refine⟨X'.w.drawn - X.w.drawn,X'.w.heap.extract X.w.heap.size X'.w.heap.size,?_⟩
 have h1:X'.w.heap=X.w.heap++X'.w.heap.extract X.w.heap.size X'.w.heap.size:=by
  apply Array.ext_getElem?
  intro i
  by_cases hi:i<X.w.heap.size
  ·rw[Array.getElem?_append_left hi]; exact (he.keep i hi (hst i)).1
  ·rw[Array.getElem?_append_right (by omega),Array.getElem?_extract]
   have:=he.size
   split
   ·congr 1; omega
   ·rw[Array.getElem?_eq_none (by omega)]
 have h2:=he.os
 have h3:=he.tape
 have h4:=he.output
 generalize X'.w=w' at *
 generalize X.w=w at *
 obtain⟨hp,tp,dr,os,out⟩:=w'
 obtain⟨hp1,tp1,dr1,os1,out1⟩:=w
 simp only at h1 h2 h3 h4 hd
 subst h2 h3 h4
 simp only[grow,World.drewN,World.mk.injEq,and_true,true_and]
 exact⟨h1,by omega⟩
theorem xU4 (g:FuncId)(hent:∀ args w,(callFunc g args).run prog w=.ok (.enter g args) w)(xs rest:List IV)(b cap:Nat)(st:ISt)(hne:xs≠[])(hlen:xs.length≤140737488355328)(hx:∀ x∈xs,fits true 4 x=true)(hb:st b=some (.box (xs.flatMap IV.cells++rest)))(cf:IV→IV→Int)
  (h1:∀ x∈xs,¬ cf x x<0) (h2:∀ x∈xs,∀ y∈xs,∀ z∈xs,cf x y<0→cf y z<0→cf x z<0) (h3:∀ x∈xs,∀ y∈xs,∀ z∈xs,¬ cf x y<0→¬ cf y z<0→¬ cf x z<0)
  (hcmp:∀ x∈xs,∀ y∈xs,ICall prog (fun _=>none) g [x,y] (fun _=>none) (fun r _=>r=.raw (.int .i64 (cf x y)))) :
  ICall prog gl 129 [.raw (.slice (some ⟨b,0,none⟩) xs.length cap),.fn (.func g) [] []] st
   (fun r st'=>r=.tup []∧∃ ys:List IV,ys.Perm xs∧ys.Pairwise (fun x y=>¬ cf y x<0)∧st'=st.put b (some (.box (ys.flatMap IV.cells++rest)))):=by
 intro B X rs hg hst hv
 subst hst
 obtain⟨r0,r1,rfl⟩:∃ r0 r1,rs=[r0,r1]:=by
  match rs,hv with
  | [a,b],_=>exact⟨a,b,rfl⟩
  | [],hv=>cases hv.1
  | [_],hv=>cases hv.1
  | _::_::_::_,hv=>cases hv.1
 obtain rfl:=V.raw_inv (hv.2 0 r0 _ rfl rfl)
 obtain⟨f1,f2,rfl,hf1,hf2⟩:=V.fn_inv (hv.2 1 r1 _ rfl rfl)
 obtain rfl:f1=[]:=List.eq_nil_of_length_eq_zero hf1.1
 obtain rfl:f2=[]:=List.eq_nil_of_length_eq_zero hf2.1
 obtain⟨hL,c,T,hh,hvl⟩:=hg.ok b _ hb
 have hblk:b<X.w.heap.size:=hg.lt hb
 have hcells:∀ x∈xs,x.cells.length=4:=fun x hxm=>(yXw (hx x hxm)).2.1
 have hcl:c.size=xs.length*4+rest.length:=by
  have:=hvl.1
  rw[lLa,yQy xs hcells,Array.length_toList] at this
  exact this
 -- the elements
 let α:={ p:IV×List Value // p.1∈xs∧VL B X.L X.w p.2 p.1.cells }
 have hel:∀ (l:List IV) (vs:List Value),(∀ x∈l,x∈xs)→VL B X.L X.w vs (l.flatMap IV.cells)→∃ d:List α,d.map (fun a=>a.1.1)=l∧d.flatMap (fun a=>a.1.2)=vs:=by
  intro l
  induction l with
  | nil =>
   intro vs _ hvs
   exact⟨[],rfl,(List.eq_nil_of_length_eq_zero hvs.1).symm⟩
  | cons x l ih =>
   intro vs hm hvs
   have hx4:=hcells x (hm x (by simp))
   have hlv:vs.length=4+(l.flatMap IV.cells).length:=by rw[hvs.1,List.flatMap_cons,lLa,hx4]
   have ha:VL B X.L X.w (vs.take 4) x.cells:=by
    have:=hvs.take 4
    rwa [List.flatMap_cons,List.take_left' hx4] at this
   have hbv:VL B X.L X.w (vs.drop 4) (l.flatMap IV.cells):=by
    have:=hvs.drop 4
    rwa [List.flatMap_cons,List.drop_left' hx4] at this
   obtain⟨d,hd1,hd2⟩:=ih (vs.drop 4) (fun y hy=>hm y (by simp[hy])) hbv
   exact⟨⟨(x,vs.take 4),hm x (by simp),ha⟩::d,by simp[hd1],by simp[hd2]⟩
 obtain⟨d,hd1,hd2⟩:=hel xs (c.toList.take (xs.length*4)) (fun _ h=>h) (by
  have:=hvl.take (xs.length*4)
  rwa [List.take_left' (yQy xs hcells)] at this)
 have hdl:d.length=xs.length:=by rw[← hd1,List.length_map]
 have hdn:d≠[]:=by rintro rfl; exact hne (List.eq_nil_of_length_eq_zero hdl.symm)
 letI:Inhabited α:=⟨d.head hdn⟩
 let enc:α→List Value:=fun a=>a.1.2
 have hk:∀ a:α,(enc a).length=4:=fun a=>by rw[a.2.2.1]; exact hcells _ a.2.1
 have hone:∀ (a:α),∀ v∈enc a,v.oneCell'=true:=fun a v hv=>zZa (C:=⟨prog,gl,B⟩) a.2.2 (yXw (hx _ a.2.1)).2.2.1 v hv
 let cf':α→α→Int:=fun a a'=>cf a.1.1 a'.1.1
 have hO:SWO (ltOf cf'):=⟨fun a=>by simp only[ltOf,decide_eq_false_iff_not]; exact h1 _ a.2.1,fun a a' a'' p q=>by
   simp only[ltOf,dTe] at p q ⊢; exact h2 _ a.2.1 _ a'.2.1 _ a''.2.1 p q,fun a a' a'' p q=>by
   simp only[ltOf,decide_eq_false_iff_not] at p q ⊢; exact h3 _ a.2.1 _ a'.2.1 _ a''.2.1 p q⟩
 have hfl:(flatK enc 4 d.toArray).toList=c.toList.take (xs.length*4):=by
  rw[zYh hk (by decide)]; exact hd2
 have hH:HoldsK enc 4 X.w b 0 d.toArray:=by
  intro j hj
  have hj':j<xs.length*4:=by rw[size_flatK] at hj; simpa[hdl] using hj
  have e1:(flatK enc 4 d.toArray)[j]?=c[j]?:=by
   rw[← Array.getElem?_toList,hfl,List.getElem?_take,if_pos hj',Array.getElem?_toList]
  have hjc:j<c.size:=by omega
  rw[Array.getElem?_eq_getElem hj,Array.getElem?_eq_getElem hjc] at e1
  refine⟨?_,?_⟩
  ·rw[Nat.zero_add,yZg hh,Array.getElem?_toList,Array.getElem?_eq_getElem hjc,← e1,id,getElem!_pos _ j hj]
  ·simp only[World.frozen?,hh]
   simp
 have hmono:∀ (n:Nat) (dk:Array α) (os:Array Obj) (X1:WS),X1.w=sortWorldK enc 4 X.w b 0 n dk os→X1.L=X.L→∀ r x,V B X.L X.w r x→V B X1.L X1.w r x:=by
  intro n dk os X1 hw hXL r x hrx
  refine V.mono hrx (fun j=>by rw[hXL]; exact Nat.le_refl _) (fun j i hi=>?_) (fun j p hp=>?_)
  ·have hjb:j≠b:=by rintro rfl; rw[hL] at hi; omega
   have hjl:j<X.w.heap.size:=by
    rcases Nat.lt_or_ge j X.w.heap.size with h | h
    ·exact h
    ·rw[hg.Lnew j h] at hi; omega
   exact yKi (by rw[hw]; exact yWt hjb hjl) i
  ·by_cases hjb:j=b
   ·subst hjb
    simp only[shq,hh] at hp
    simp only[shq,hw,xV6 hh]
    rw[← hp]
    simp[putCells]
   ·rw[← hp]; exact yJ5 (by rw[hw]; exact yWt hjb (zQf hp))
 have hcon:=AnyQ.slices_SortFunc Tryz.sortFL 4 wQ3 xYk enc hk hone cf' hO g #[] b 0 cap d.toArray X.w hent (by
   intro n os dk hdk a a'
   let X1:WS:={ w:=sortWorldK enc 4 X.w b 0 n dk os,L:=X.L,st:=fun _=>none,d:=X.w.drawn+n }
   have hsz:=size_sortWorldK_c enc 4 X.w b 0 n dk os
   have hg1:Go.Iv.Good ⟨prog,fun _=>none,B⟩ X1:=⟨fun _ _ h=>(by cases h),fun _ _ h=>(by cases h),Nat.le_trans hg.B hsz,fun j hj=>hg.Lnew j (Nat.le_trans hsz hj),fun _ _ h=>(by cases h),fun _=>Nat.le_refl _⟩
   have hm1:=hmono n dk os X1 rfl rfl
   have agg:∀ a:α,V B X1.L X1.w (.agg (enc a).toArray) a.1.1:=fun a=>by
    obtain⟨⟨x,vs⟩,hxm,hvx⟩:=a
    obtain⟨cs,rfl⟩:∃ cs,x=.agg cs:=by
     have:=hx x hxm
     cases x<;>first | exact⟨_,rfl⟩ | (simp[fits] at this)
    exact (show VL B X1.L X1.w vs cs from⟨hvx.1,fun i r c hr hc=>hm1 r c (hvx.2 i r c hr hc)⟩).agg
   refine (hcmp a.1.1 a.2.1 a'.1.1 a'.2.1 B X1 [.agg (enc a).toArray,.agg (enc a').toArray] hg1 rfl (VL.cons (agg a) (VL.cons (agg a') VL.nil))).mono ?_
   rintro e w' ⟨v,rfl,X',x,rfl,hg',he',hv',rfl⟩
   obtain rfl:=V.raw_inv hv'
   refine⟨rfl,?_⟩
   have hd:=hg'.dr (fun _=>rfl)
   rw[he'.d] at hd
   exact xKn he' (fun _=>rfl) hd) hH hblk (by simp[hdl]; omega)
 have harr:(⟨[.slice (some ⟨b,0,none⟩) xs.length cap,.func (.func g) ⟨[]⟩ ⟨[]⟩]⟩:Array Value)=#[.slice (some ⟨b,0,none⟩) d.toArray.size cap,.func (.func g) #[] #[]]:=by simp[hdl]
 rw[harr]
 refine hcon.mono ?_
 rintro e w' ⟨rfl,d',n,os,hp,hs,rfl⟩
 have hd'l:d'.size=xs.length:=by rw[hp.1]; simp[hdl]
 have hperm:d'.toList.Perm d:=by
  have:=hp.2.2
  rw[List.size_toArray,hdl,← hd'l,Array.extract_size] at this
  rwa [hd'l,← hdl,show d.toArray.extract 0 d.length=d.toArray by simp] at this
 have hys:∀ y∈d'.toList.map (fun a=>a.1.1),y∈xs:=fun y hy=>by
  obtain⟨a,_,rfl⟩:=List.mem_map.1 hy
  exact a.2.1
 have hblock:=xV6 (enc:=enc) (k:=4) (m:=n) (dk:=d') (os:=os) hh
 have hfs:(flatK enc 4 d').size=xs.length*4:=by rw[size_flatK,hd'l]
 have hpl:(putCells id 0 (flatK enc 4 d') c).toList=d'.toList.flatMap enc++c.toList.drop (xs.length*4):=by
  rw[zGl (by omega),zYh hk (by decide),hfs]
 let X':WS:={ w:=sortWorldK enc 4 X.w b 0 n d' os,L:=X.L,st:=X.st.put b (some (.box ((d'.toList.map (fun a=>a.1.1)).flatMap IV.cells++rest))),d:=X.d }
 have hm:=hmono n d' os X' rfl rfl
 have hsz:=size_sortWorldK_c enc 4 X.w b 0 n d' os
 have hvlm:∀ rs cs,VL B X.L X.w rs cs→VL B X'.L X'.w rs cs:=fun rs cs h=>⟨h.1,fun i r x hr hx=>hm r x (h.2 i r x hr hx)⟩
 have hgood:Go.Iv.Good ⟨prog,gl,B⟩ X':=by
  refine⟨fun j o ho=>?_,fun j x hj=>hm _ _ (hg.gl j x hj),Nat.le_trans hg.B hsz,fun j hj=>hg.Lnew j (Nat.le_trans hsz hj),fun j x hj=>?_,fun hd=>Nat.le_trans (hg.dr hd) (Nat.le_add_right _ _)⟩
  ·by_cases hjb:j=b
   ·subst hjb
    simp only[X',ISt.put_same,Option.some.injEq] at ho
    subst ho
    refine⟨hL,_,T,hblock,hvlm _ _ ?_⟩
    rw[hpl]
    refine VL.append ?_ ?_
    ·have key:∀ l:List α,VL B X.L X.w (l.flatMap enc) ((l.map fun a=>a.1.1).flatMap IV.cells):=fun l=>by
      induction l with
      | nil=>exact VL.nil
      | cons a l ih=>simp only[List.flatMap_cons,List.map_cons]; exact a.2.2.append ih
     exact key _
    ·have:=hvl.drop (xs.length*4)
     rwa [List.drop_left' (yQy xs hcells)] at this
   ·have ho':X.st j=some o:=by simpa only[X',ISt.put_apply,if_neg hjb] using ho
    exact (hg.ok j o ho').mono (yWt hjb (hg.lt ho')) rfl hvlm
  ·obtain⟨T',z,hT⟩:=hg.gsh j x hj
   refine⟨T',z,?_⟩
   by_cases hjb:j=b
   ·subst hjb
    simp only[shq,hh] at hT
    simp only[shq,X',hblock]
    rw[← hT]
    simp[putCells]
   ·rw[← hT]; exact yJ5 (yWt hjb (zQf hT))
 refine⟨_,rfl,X',.tup [],rfl,hgood,⟨rfl,rfl,rfl,hsz,fun _=>Nat.le_refl _,fun j i hi=>?_,fun j hj hs0=>?_,fun j hj hs0=>?_,fun j p hp=>?_,rfl⟩,.tup [] [] rfl (fun i r c h=>by simp at h),rfl,_,?_,?_,rfl⟩
 ·have hjb:j≠b:=by rintro rfl; rw[hL] at hi; omega
  have hjl:j<X.w.heap.size:=by
   rcases Nat.lt_or_ge j X.w.heap.size with h | h
   ·exact h
   ·rw[hg.Lnew j h] at hi; omega
  exact yKi (yWt hjb hjl) i
 ·have hjb:j≠b:=by rintro rfl; rw[hb] at hs0; cases hs0
  exact⟨yWt hjb hj,rfl⟩
 ·have hjb:j≠b:=by rintro rfl; rw[hb] at hs0; cases hs0
  simp only[X',ISt.put_apply,if_neg hjb]; exact hs0
 ·by_cases hjb:j=b
  ·subst hjb
   simp only[shq,hh] at hp
   simp only[shq,X',hblock]
   rw[← hp]
   simp[putCells]
  ·rw[← hp]; exact yJ5 (yWt hjb (zQf hp))
 ·have:=hperm.map (fun a:α=>a.1.1)
  rwa [hd1] at this
 ·rw[List.pairwise_map]
  refine List.pairwise_iff_getElem.2 fun i j hi hj hij=>?_
  have:=hs i j (Nat.zero_le _) hij (by simp at hj ⊢; omega)
  simp only[ltOf,decide_eq_false_iff_not] at this
  rw[Array.length_toList] at hi hj
  rw[getElem!_pos d' i hi,getElem!_pos d' j hj] at this
  exact this
end Go.Proofs.Tryz
