/- Walks: what is in a list of formulas; wh -/
import Derived.Test.YtddfdpbibloljaaGreatDoorQE
set_option linter.all false
open Nat renaming reduceEqDiff → zE,reduceBEq → zB,reduceAdd → zA,reduceMul → zM,reduceSub → zS,reduceLeDiff → zL
namespace Go.Proofs.Tryz
open Go Go.Iv
set_option maxRecDepth 4000
variable (gl:Nat->Option IV)
noncomputable def hasL (l:List Fm)(f:Fm):Bool:=l.any λg=>decide (yGh f g=0)
theorem yVx {l:List Fm}{f:Fm}:hasL l f=true↔f∈l:=by
 simp only[hasL,List.any_eq_true,dTe,zUi];constructor
 ·rintro⟨x,h,rfl⟩;exact h
 ·exact λh=>⟨f,h,rfl⟩
theorem xQw (l:List Fm)(t:Tag)(xs:List IV)(ht:okEs t 4)(hxs:IsFms l xs)(f:Fm)(y:IV)(hy:IsFm f y)(st:ISt):ICall prog gl 98 [.sl t xs,y] st (λr st'=>r=.raw (.bool (hasL l f))/\st'=st):=by
 have hy0:=hy;obtain⟨o7,n7,t7,x7,t8,x8,rfl⟩:=hy.agg;refine iI func98 ?_;simp only[go_sem,zE,zB,zA,zM,zS,zL,reduceCtorEq,hxs.len,fits];intro _;refine LoopC.ctr l.length (λk fr st' ds=>hasL (l.take k) f=false/\fr 3=.box [.raw (.int .u8 o7),.raw (.string n7),.sl t7 x7,.sl t8 x8]/\fr 7=.iv (.sl t xs)/\fr 8=.iv (.raw (.int .i64 l.length))/\fr 9=.iv (.raw (.int .i64 k))/\st'=st/\ds=[]) ?_ ?_ ?_
 ·simp only[go_sem,zE,zB,zA,zM,zS,zL,reduceCtorEq];exact⟨rfl,rfl⟩
 ·rintro k fr st1 _ hlt ⟨hn,f3,f7,f8,f9,rfl,rfl⟩;obtain⟨a,ha⟩:=yQ4 hlt;obtain⟨z,hkz,hz⟩:=hxs.get ha;have hs:=λst=>xJf gl f a _ _ hy0 hz st;obtain⟨o5,n5,t5,x5,t6,x6,rfl⟩:=hz.agg;simp only[go_sem,zE,zB,zA,zM,zS,zL,reduceCtorEq,f3,f7,f8,f9,lt_i hlt,yQ3 ht,iNn,hkz,fits];refine (hs _).mono ?_;rintro _ _ ⟨rfl,rfl⟩;cases hc:decide (yGh f a=0)
  ·simp only[go_sem,zE,zB,zA,zM,zS,zL,reduceCtorEq,f3,f7,f8,f9,yQf hlt (show l.length<=281474976710656 by have:=hxs.len;omega)];unfold hasL at hn ⊢;rw[yQ7 ha,List.any_append,hn];simp[hc]
  ·simp only[go_sem,zE,zB,zA,zM,zS,zL,reduceCtorEq];exact yQ0 ⟨by rw[show hasL l f=true from List.any_eq_true.2 ⟨_,lMg ha,hc⟩],rfl⟩
 ·rintro fr st1 _ ⟨hn,f3,f7,f8,f9,rfl,rfl⟩;rw[lTl] at hn;simp only[go_sem,zE,zB,zA,zM,zS,zL,reduceCtorEq,f8,f9,yQo (nLi _)];exact yQ0 ⟨by rw[hn],rfl⟩
noncomputable def yJn (a b:List Fm):Bool:=a.any λf=>hasL b f
theorem wXg (l:List Fm)(t:Tag)(xs:List IV)(ht:okEs t 4)(hxs:IsFms l xs)(b:List Fm)(t2:Tag)(ys:List IV)(ht2:okEs t2 4)(hys:IsFms b ys)(st:ISt):ICall prog gl 100 [.sl t xs,.sl t2 ys] st (λr st'=>r=.raw (.bool (yJn l b))/\st'=st):=by
 refine iI func100 ?_;simp only[go_sem,zE,zB,zA,zM,zS,zL,reduceCtorEq,hxs.len];intro _;refine LoopC.ctr l.length (λk fr st' ds=>yJn (l.take k) b=false/\fr 1=.iv (.sl t2 ys)/\fr 7=.iv (.sl t xs)/\fr 8=.iv (.raw (.int .i64 l.length))/\fr 9=.iv (.raw (.int .i64 k))/\st'=st/\ds=[]) ?_ ?_ ?_
 ·simp only[go_sem,zE,zB,zA,zM,zS,zL,reduceCtorEq];exact⟨rfl,rfl⟩
 ·rintro k fr st1 _ hlt ⟨hn,f1,f7,f8,f9,rfl,rfl⟩;obtain⟨a,ha⟩:=yQ4 hlt;obtain⟨z,hkz,hz⟩:=hxs.get ha;have hs:=λst=>xQw gl b t2 ys ht2 hys a _ hz st;obtain⟨o5,n5,t5,x5,t6,x6,rfl⟩:=hz.agg;simp only[go_sem,zE,zB,zA,zM,zS,zL,reduceCtorEq,f1,f7,f8,f9,lt_i hlt,yQ3 ht,iNn,hkz,fits];refine (hs _).mono ?_;rintro _ _ ⟨rfl,rfl⟩;cases hc:hasL b a
  ·simp only[go_sem,zE,zB,zA,zM,zS,zL,reduceCtorEq,f1,f7,f8,f9,yQf hlt (show l.length<=281474976710656 by have:=hxs.len;omega)];unfold yJn at hn ⊢;rw[yQ7 ha,List.any_append,hn];simp[hc]
  ·simp only[go_sem,zE,zB,zA,zM,zS,zL,reduceCtorEq];exact yQ0 ⟨by rw[show yJn l b=true from List.any_eq_true.2 ⟨_,lMg ha,hc⟩],rfl⟩
 ·rintro fr st1 _ ⟨hn,f1,f7,f8,f9,rfl,rfl⟩;rw[lTl] at hn;simp only[go_sem,zE,zB,zA,zM,zS,zL,reduceCtorEq,f8,f9,yQo (nLi _)];exact yQ0 ⟨by rw[hn],rfl⟩
noncomputable def yWc (need r:List Fm)(f:Fm):List Fm:=if hasL need f&&!hasL r f then r++[f] else r
noncomputable def yX2 (l need:List Fm):List Fm:=l.foldl (yWc need) []
theorem yWb {need:List Fm}:∀ {l r:List Fm},yQ9 (l.foldl (yWc need) r)<=yQ9 r+yQ9 l/\(l.foldl (yWc need) r).length<=r.length+l.length
 | [],r=>by simp[yQ9]
 | a::l,r=>by
  obtain⟨h,h'⟩:=yWb (need:=need) (l:=l) (r:=yWc need r a);have h2:yQ9 (yWc need r a)<=yQ9 r+a.size/\(yWc need r a).length<=r.length+1:=by
   unfold yWc;split
   ·rw[yKg];simp[yQ9]
   ·omega
  simp only[yQ9,List.foldl_cons,List.length_cons];omega
theorem xW9 (l:List Fm)(t:Tag)(xs:List IV)(ht:okEs t 4)(hxs:IsFms l xs)(b:List Fm)(t2:Tag)(ys:List IV)(ht2:okEs t2 4)(hys:IsFms b ys)(hl:yQ9 l<=1000000)(st:ISt) :
  ICall prog gl 101 [.sl t xs,.sl t2 ys] st (λr st'=>∃t' zs,r=.sl t' zs/\okEs t' 4/\IsFms (yX2 l b) zs/\st'=st):=by
 have hll:=yQw l;refine iI func101 ?_;simp only[go_sem,zE,zB,zA,zM,zS,zL,reduceCtorEq,hxs.len];intro _;refine LoopC.ctr l.length (λk fr st' ds=>(∃t' zs,fr 5=.iv (.sl t' zs)/\IsFms (yX2 (l.take k) b) zs/\own st' t' (yX2 (l.take k) b).length 4 st/\subSt st st')/\fr 1=.iv (.sl t2 ys)/\fr 8=.iv (.sl t xs)/\fr 9=.iv (.raw (.int .i64 l.length))/\fr 10=.iv (.raw (.int .i64 k))/\ds=[]) ?_ ?_ ?_
 ·simp only[go_sem,zE,zB,zA,zM,zS,zL,reduceCtorEq];exact⟨⟨_,_,rfl,rfl,.inl ⟨rfl,rfl⟩,subSt.refl _⟩,rfl⟩
 ·rintro k fr st1 _ hlt ⟨⟨t',zs,f5,hzs,hown,hsub⟩,f1,f8,f9,f10,rfl⟩;obtain⟨a,ha⟩:=yQ4 hlt;obtain⟨y,hky,hy⟩:=hxs.get ha;have h1:=λst=>xQw gl b t2 ys ht2 hys a y hy st;have h2:=λst=>xQw gl _ t' zs hown.es hzs a y hy st;have hpl:=(yWb (need:=b) (l:=l.take k) (r:=[])).2;rw[List.length_take,List.length_nil] at hpl;have hpl':(yX2 (l.take k) b).length<=k:=by unfold yX2;omega
  have hst:yX2 (l.take (k+1)) b=yWc b (yX2 (l.take k) b) a:=by rw[yX2,yQ7 ha,List.foldl_append];rfl
  have hy0:=hy;obtain⟨o5,n5,t5,x5,t6,x6,rfl⟩:=hy.agg;rw[hst];unfold yWc;simp only[go_sem,zE,zB,zA,zM,zS,zL,reduceCtorEq,f1,f5,f8,f9,f10,lt_i hlt,yQ3 ht,iNn,hky,fits];refine (h1 _).mono ?_;rintro _ st1 ⟨rfl,rfl⟩;cases hb1:hasL b a
  ·simp only[go_sem,zE,zB,zA,zM,zS,zL,reduceCtorEq,f1,f5,f8,f9,f10,fits,yQf hlt (show l.length<=281474976710656 by omega)];exact⟨t',zs,rfl,hzs,hown,hsub⟩
  ·simp only[go_sem,zE,zB,zA,zM,zS,zL,reduceCtorEq,f1,f5,f8,f9,f10,fits];refine (h2 _).mono ?_;rintro _ st1 ⟨rfl,rfl⟩;cases hb2:hasL (yX2 (l.take k) b) a
   ·simp only[go_sem,zE,zB,zA,zM,zS,zL,reduceCtorEq,f1,f5,f8,f9,f10,fits,yQ1];refine yJj hown hzs.len hsub rfl (by simp[fits,IV.one]) (by simp only;omega) (by omega) λtg3 st5 hown3 hsub5 _=>?_;simp only[go_sem,zE,zB,zA,zM,zS,zL,reduceCtorEq,f1,f8,f9,f10,yQf hlt (show l.length<=281474976710656 by omega)];exact⟨tg3,_,rfl,hzs.append ⟨_,_,rfl,hy0,rfl⟩,by rw[lLa];exact hown3,hsub5⟩
   ·simp only[go_sem,zE,zB,zA,zM,zS,zL,reduceCtorEq,f1,f5,f8,f9,f10,fits,yQf hlt (show l.length<=281474976710656 by omega)];exact⟨t',zs,rfl,hzs,hown,hsub⟩
 ·rintro fr st1 _ ⟨⟨t',zs,f5,hzs,hown,hsub⟩,f1,f8,f9,f10,rfl⟩;rw[lTl] at hzs hown;have hps:=(yWb (need:=b) (l:=l) (r:=[])).1;simp only[yQ9] at hps;simp only[go_sem,zE,zB,zA,zM,zS,zL,reduceCtorEq,f5,f9,f10,yQo (nLi _)];refine (zUf gl _ t' zs hown.es hzs (by unfold yX2;omega) _).mono ?_;rintro _ st1 ⟨t3,ys3,rfl,e3,_,i3,rfl⟩;simp only[go_sem,zE,zB,zA,zM,zS,zL,reduceCtorEq];exact yQa hsub ⟨t3,ys3,rfl,e3,i3.1,rfl⟩
structure UP where
 d:Nat
 b:Nat
 k:Nat
 n:Nat
 hx:IV
 y:IV
 zs:IV
 S0:ISt
 S1:ISt
 B:IV->List IV
 ok:Nat->Nat->List IV->Prop
 P:Fr->Prop
namespace UP
variable (u:UP)
def new (g cap:Nat):IV:=.raw (.slice (some ⟨g,0,none⟩) (u.n+1) cap)
def sl (g cap:Nat):List (Option (Nat×IV)):=[some (u.d,.raw (.pointer (some ⟨u.b,u.k,none⟩))),some (u.d+1,u.hx),some (u.d+2,u.y),some (u.d+3,.raw (.int .i64 u.n)),some (u.d+4,u.zs),some (u.d+5,u.new g cap),some (u.d+6,.raw (.pointer (some ⟨g,u.n*4,none⟩))),none,
 some (u.d+7,.raw (.pointer (some ⟨u.b,u.k,none⟩))),none]
def st (l7 l9:Bool)(g cap:Nat)(cs:List IV):ISt:=(if l9=true then u.S1.put u.b (some (.box (u.B (u.new g cap)))) else u.S1).put g (some (.box (if l7=true then yZv cs (u.n*4) u.y.cells else cs)))
def C (listed:Array Bool):Prop:=(listed.getD 5 false=true->∀i,i<5->listed.getD i false=true)/\∀i,5<=i->listed.getD i false=true->listed.getD 5 false=true
def T (listed:Array Bool)(s:ISt)(g cap:Nat)(cs:List IV):Prop:=(listed.getD 5 false=false/\s=u.S0)\/(listed.getD 5 false=true/\u.ok g cap cs/\s=u.st (listed.getD 7 false) (listed.getD 9 false) g cap cs)
def J (listed:Array Bool):Kt:=λad fr s ds=>(∀s,ad s=none)/\ds=[]/\u.P fr/\C listed/\∃g cap cs,SlotsOk (u.sl g cap) listed fr/\u.T listed s g cap cs
variable {u}
theorem wZf {g cap i d:Nat}{z:IV}(h:(u.sl g cap)[i]?=some (some (d,z))):i<10/\u.d<=d/\d<u.d+8:=by
 have hi:i<10:=(lGs h).1;refine⟨hi,?_⟩;rcases (show i=0\/i=1\/i=2\/i=3\/i=4\/i=5\/i=6\/i=7\/i=8\/i=9 by omega) with rfl|rfl|rfl|rfl|rfl|rfl|rfl|rfl|rfl|rfl
 all_goals first|(cases h;done)|(cases h;omega)
theorem nd (d:Nat)(g cap:Nat)(h:u.d=d)(hn:ndO [some d,some (d+1),some (d+2),some (d+3),some (d+4),some (d+5),some (d+6),none,some (d+7),none]=true):ndO ((u.sl g cap).map (·.map (·.1)))=true:=by
 subst h;exact hn
theorem C.set {listed:Array Bool}{i:Nat}(hz:listed.size=10)(hi:i<10)(h:C listed)(h1:5<i->listed.getD 5 false=true)(h2:i=5->∀j,j<5->listed.getD j false=true):C (listed.setIfInBounds i true):=by
 refine⟨λh5 j hj=>?_,λj hj hl=>?_⟩
 ·rw[yQq (by omega)] at h5 ⊢;split
  ·rfl
  ·split at h5
   ·exact h2 ‹_› j hj
   ·exact h.1 h5 j hj
 ·rw[yQq (by omega)] at hl ⊢;split
  ·rfl
  ·split at hl
   ·exact h1 (by omega)
   ·exact h.2 j hj hl
theorem pure {listed:Array Bool}{ad:Ad}{fr:Fr}{s:ISt}{g cap:Nat}{cs:List IV}(hn:∀g cap,ndO ((u.sl g cap).map (·.map (·.1)))=true)(hP:∀fr d z,u.d<=d->d<u.d+8->u.P fr->u.P (fr.put d z))(hz:listed.size=10)(had:∀s,ad s=none)(hF:u.P fr)(hC:C listed)(hsl:SlotsOk (u.sl g cap) listed fr)(hT:u.T listed s g cap cs)
  {i d:Nat} {z:IV} (h579:i≠5/\i≠7/\i≠9) (h5:5<i->listed.getD 5 false=true) (hs:(u.sl g cap)[i]?=some (some (d,z))):u.J (listed.setIfInBounds i true) (ad.put d none) (fr.put d (.iv z)) s []:=by
 have hi:=(wZf hs).1;refine⟨yG0 had d,rfl,hP _ _ _ (wZf hs).2.1 (wZf hs).2.2 hF,hC.set hz hi h5 (λh=>absurd h h579.1),g,cap,cs,hsl.step rfl (hn g cap) (by omega) hs (λ_ _ _=>rfl),?_⟩;unfold T at hT ⊢;rw[yQq (by omega),if_neg h579.1,yQq (by omega),if_neg h579.2.1,yQq (by omega),if_neg h579.2.2];exact hT
theorem uXk {g cap g' cap' j:Nat}(h5:j≠5)(h6:j≠6):(u.sl g' cap')[j]?=(u.sl g cap)[j]?:=by
 by_cases hj:j<10
 ·rcases (show j=0\/j=1\/j=2\/j=3\/j=4\/j=7\/j=8\/j=9 by omega) with rfl|rfl|rfl|rfl|rfl|rfl|rfl|rfl<;>rfl
 ·rw[List.getElem?_eq_none (by show 10<=j;omega),List.getElem?_eq_none (by show 10<=j;omega)]
theorem app {listed:Array Bool}{ad:Ad}{fr:Fr}{g cap:Nat}(hn:∀g cap,ndO ((u.sl g cap).map (·.map (·.1)))=true)(hP:∀fr d z,u.d<=d->d<u.d+8->u.P fr->u.P (fr.put d z))(hz:listed.size=10)(had:∀s,ad s=none)(hF:u.P fr)(hC:C listed)(hsl:SlotsOk (u.sl g cap) listed fr)
  (hall:∀j,j<5->listed.getD j false=true) (hfl:listed.getD 5 false=false) {g' cap':Nat} {cs':List IV} (hok:u.ok g' cap' cs'):u.J (listed.setIfInBounds 5 true) (ad.put (u.d+5) none) (fr.put (u.d+5) (.iv (u.new g' cap'))) (u.S1.put g' (some (.box cs'))) []:=by
 have off:∀j,5<=j->listed.getD j false=false:=λj hj=>by
  cases hq:listed.getD j false
  ·rfl
  ·rw[hC.2 j hj hq] at hfl;cases hfl
 refine⟨yG0 had _,rfl,hP _ _ _ (by omega) (by omega) hF,hC.set hz (by decide) (λh=>absurd h (by decide)) (λ_=>hall),g',cap',cs',hsl.step rfl (hn g' cap') (by omega) rfl (λj hj hl=>uXk hj λh6=>by rw[h6,off 6 (by decide)] at hl;cases hl),.inr ⟨by rw[yQq (by omega),if_pos rfl],hok,?_⟩⟩;rw[yQq (by omega),if_neg (by decide),off 7 (by decide),yQq (by omega),if_neg (by decide),off 9 (by decide)];rfl
theorem T.st5 {listed:Array Bool}{s:ISt}{g cap:Nat}{cs:List IV}(h5:listed.getD 5 false=true)(h:u.T listed s g cap cs):u.ok g cap cs/\s=u.st (listed.getD 7 false) (listed.getD 9 false) g cap cs:=by
 rcases h with⟨h,_⟩|⟨_,h⟩
 ·rw[h] at h5;cases h5
 ·exact h
theorem cell {listed:Array Bool}{ad:Ad}{fr:Fr}{s:ISt}{g cap:Nat}{cs:List IV}(hz:listed.size=10)(had:∀s,ad s=none)(hF:u.P fr)(hC:C listed)(hsl:SlotsOk (u.sl g cap) listed fr)(hT:u.T listed s g cap cs)
  (h5:listed.getD 5 false=true) (hfl:listed.getD 7 false=false):s g=some (.box cs)/\u.J (listed.setIfInBounds 7 true) ad fr (s.put g (some (.box (yZv cs (u.n*4) u.y.cells)))) []:=by
 obtain⟨hok,rfl⟩:=hT.st5 h5;refine⟨by rw[hfl];exact ISt.put_same ..,had,rfl,hF,hC.set hz (by decide) (λ_=>h5) (λh=>absurd h (by decide)),g,cap,cs,hsl.skip (.inl rfl),.inr ⟨by rw[yQq (by omega),if_neg (by decide)];exact h5,hok,?_⟩⟩;rw[yQq (by omega),if_pos rfl,yQq (by omega),if_neg (by decide)];unfold st;rw[yQ8];rfl
theorem header {listed:Array Bool}{ad:Ad}{fr:Fr}{s:ISt}{g cap:Nat}{cs:List IV}(hgb:∀g cap cs,u.ok g cap cs->g≠u.b)(hz:listed.size=10)(had:∀s,ad s=none)(hF:u.P fr)(hC:C listed)(hsl:SlotsOk (u.sl g cap) listed fr)(hT:u.T listed s g cap cs)
  (h5:listed.getD 5 false=true) (hfl:listed.getD 9 false=false):s u.b=u.S1 u.b/\u.J (listed.setIfInBounds 9 true) ad fr (s.put u.b (some (.box (u.B (u.new g cap))))) []:=by
 obtain⟨hok,rfl⟩:=hT.st5 h5;have hne:=hgb _ _ _ hok;refine⟨?_,had,rfl,hF,hC.set hz (by decide) (λ_=>h5) (λh=>absurd h (by decide)),g,cap,cs,hsl.skip (.inl rfl),.inr ⟨by rw[yQq (by omega),if_neg (by decide)];exact h5,hok,?_⟩⟩
 ·rw[hfl];exact yQb hne.symm
 ·rw[yQq (by omega),if_neg (by decide),yQq (by omega),if_pos rfl,hfl];unfold st;rw[if_neg (by decide),if_pos rfl,zXw hne]
end UP
theorem zZ8 {ops:Array Oper}{listed:Array Bool}(h:((List.range ops.size).all λi=>(opAt ops i).after.toList.all λe=>!Region.binds .any e || decide (e.on<i))=true)(hz:listed.size=ops.size)(hr:Region.ready .any ops listed=[]):∀i,i<ops.size->listed.getD i false=true:=by
 intro i
 induction i using Nat.strongRecOn with
 | _ i ih =>
  intro hi;refine Classical.byContradiction λhc=>?_;have h4:listed.getD i true=false:=by
   rw[Array.getD_eq_getD_getElem?,Array.getElem?_eq_getElem (by omega)] at hc ⊢;simpa using hc
  have:i∈Region.ready .any ops listed:=mem_ready.2 ⟨h4,_,yZr hi,λe hem hb=>by
   have h5:=List.all_eq_true.1 (List.all_eq_true.1 h i (List.mem_range.2 hi)) e (by simpa using hem);rw[hb] at h5;have h6:e.on<i:=by simpa using h5
   exact ih e.on h6 (Nat.lt_trans h6 hi)⟩
  rw[hr] at this;cases this
def NeedO (s0 st:ISt)(b gL gR:Nat)(L R:List Fm):Prop:=∃xl xr zl zr,st b=some (.box [xl,xr])/\SlO s0 st 4 L.length (zl.flatMap IV.cells) gL xl/\IsFms L zl/\SlO s0 st 4 R.length (zr.flatMap IV.cells) gR xr/\IsFms R zr /\
 (L≠[]->gL≠b/\(R≠[]->gL≠gR))/\(R≠[]->gR≠b)/\∀c,c≠b->(L≠[]->c≠gL)->(R≠[]->c≠gR)->st c=s0 c
theorem SlO.mono {s0 st st':ISt}{s n g:Nat}{cells:List IV}{x:IV}(h:SlO s0 st s n cells g x)(hs:0<n->st' g=st g):SlO s0 st' s n cells g x:=by
 rcases h with h|⟨h1,cap,cs,h2,h3,h4⟩
 ·exact .inl h
 ·exact .inr ⟨h1,cap,cs,h2,by rw[hs h1];exact h3,h4⟩
theorem more {s0 st1 S1:ISt}{b gL gR g cap:Nat}{Lk R:List Fm}{f:Fm}{zl crs cs Bx Bo:List IV}{xl xr y:IV}(hsL:SlO s0 st1 4 Lk.length (zl.flatMap IV.cells) gL xl)(izl:IsFms Lk zl)(hsR:SlO s0 st1 4 R.length crs gR xr)(hne:Lk≠[]->gL≠b/\(R≠[]->gL≠gR))(hRb:R≠[]->gR≠b)
  (hoff:∀c,c≠b->(Lk≠[]->c≠gL)->(R≠[]->c≠gR)->st1 c=s0 c) (hS1:S1=if Lk=[] then st1 else st1.put gL none) (hS1b:S1 b=some (.box Bo)) (hg:S1 g=none) (hc:Lk.length+1<=cap) (hcl:cap*4<=cs.length) (htk:cs.take (Lk.length*4)=zl.flatMap IV.cells) (hy:IsFm f y) (hyc:y.cells.length=4) {s':ISt}
  (hs':s'=(S1.put b (some (.box Bx))).put g (some (.box (yZv cs (Lk.length*4) y.cells)))) :
  g≠b/\(R≠[]->g≠gR)/\s' b=some (.box Bx)/\SlO s0 s' 4 (Lk++[f]).length ((zl++[y]).flatMap IV.cells) g (.raw (.slice (some ⟨g,0,none⟩) (Lk.length+1) cap))/\IsFms (Lk++[f]) (zl++[y])/\SlO s0 s' 4 R.length crs gR xr/\∀c,c≠b->c≠g->(R≠[]->c≠gR)->s' c=s0 c:=by
 have hgb:g≠b:=λh=>by rw[h,hS1b] at hg;cases hg
 have pos:∀l:List Fm,0<l.length↔l≠[]:=λl=>by cases l<;>simp
 have hRs:R≠[]->st1 gR≠none:=λh=>by
  rcases hsR with⟨h0,_⟩|⟨_,_,_,_,h1,_⟩
  ·exact absurd (List.length_eq_zero_iff.1 h0) h
  ·rw[h1];simp
 have hLs:Lk≠[]->s0 gL=none:=λh=>by
  rcases hsL with⟨h0,_⟩|⟨_,_,_,_,_,_,_,_,h1⟩
  ·exact absurd (List.length_eq_zero_iff.1 h0) h
  ·exact h1
 have hS1c:∀c,(Lk≠[]->c≠gL)->S1 c=st1 c:=λc hc=>by
  rw[hS1];split
  ·rfl
  ·exact yQb (hc ‹_›)
 have hgR:R≠[]->g≠gR:=λh hq=>by
  rw[hq,hS1c gR λhl=>((hne hl).2 h).symm] at hg;exact hRs h hg
 have hs0:∀c,c≠b->(R≠[]->c≠gR)->S1 c=s0 c:=λc hcb hcR=>by
  by_cases hl:Lk≠[]/\c=gL
  ·rw[hS1,if_neg hl.1,hl.2,ISt.put_same,hLs hl.1]
  ·have:Lk≠[]->c≠gL:=λh1 h2=>hl ⟨h1,h2⟩;rw[hS1c c this];exact hoff c hcb this hcR
 have hg0:s0 g=none:=by rw[<- hs0 g hgb hgR];exact hg
 have hn4:Lk.length*4+4<=cs.length:=by omega
 refine⟨hgb,hgR,by rw[hs',yQb hgb.symm,ISt.put_same],.inr ⟨by simp,cap,yZv cs (Lk.length*4) y.cells,by rw[lLa];rfl,by rw[hs',ISt.put_same],by simpa using hc,?_,?_,hg0⟩,izl.append ⟨_,_,rfl,hy,rfl⟩,hsR.mono λh=>?_,λc h1 h2 h3=>?_⟩
 ·simp only[yZv,lLa,List.length_take,List.length_drop,hyc];omega
 ·have h6:(cs.take (Lk.length*4)++y.cells).length=(Lk++[f]).length*4:=by
   rw[lLa,List.length_take,hyc,Nat.min_eq_left (by omega),lLa,Nat.add_mul];rfl
  unfold yZv;rw[List.take_append_of_le_length (by omega),List.take_of_length_le (by omega),htk,List.flatMap_append,List.flatMap_singleton]
 ·have hR:=(pos R).1 h;rw[hs',yQb (hgR hR).symm,yQb (hRb hR),hS1c gR λhl=>((hne hl).2 hR).symm]
 ·rw[hs',yQb h2,yQb h1];exact hs0 c h1 h3
noncomputable def yXw (l w:List Fm):List Fm:=l.filter λf=>!hasL w f
theorem zQg (l m w:List Fm):yXw (l++m) w=yXw l w++yXw m w:=by simp[yXw]
theorem xX2 (s w:Sq)(x y:IV)(hx:IsSq s x)(hy:IsSq w y)(s0 st:ISt)(b gL gR:Nat)(L R:List Fm)(h:NeedO s0 st b gL gR L R)(hl:L.length+R.length+s.l.length+s.r.length<=1000000) :
  ICall prog gl 97 [x,y,ptrI b] st (λr st'=>r=.tup []/\∃gL gR,NeedO s0 st' b gL gR (L++yXw s.l w.l) (R++yXw s.r w.r)):=by
 obtain⟨t1,x1,t2,x2,rfl,e1,i1,e2,i2⟩:=hx;obtain⟨t3,x3,t4,x4,rfl,e3,i3,e4,i4⟩:=hy;unfold ptrI;refine ICall.intro (c:=cf prog gl [26,47,22,43] [(5,[]),(11,[])]) func97 rfl (by show _<=51;simp) (by kernel_rfl) ?_;simp only[go_sem,zE,zB,zA,zM,zS,zL,reduceCtorEq,fits,i1.len];intro _;refine LoopC.ctr s.l.length (λk fr st' ds=>(∃gL,NeedO s0 st' b gL gR (L++yXw (s.l.take k) w.l) R)/\fr 2=.iv (ptrI b)/\fr 3=.box [.sl t1 x1,.sl t2 x2]/\fr 4=.box [.sl t3 x3,.sl t4 x4]/\fr 10=.iv (.sl t1 x1)/\fr 11=.iv (.raw (.int .i64 s.l.length))/\fr 12=.iv (.raw (.int .i64 k))/\ds=[]) ?_ ?_ ?_
 ·simp only[go_sem,zE,zB,zA,zM,zS,zL,reduceCtorEq];exact⟨⟨gL,by simpa[yXw] using h⟩,rfl,rfl⟩
 ·rintro k fr st1 _ hlt ⟨⟨gL,hN⟩,f2,f3,f4,f10,f11,f12,rfl⟩;obtain⟨a,ha⟩:=yQ4 hlt;obtain⟨z,hkz,hz⟩:=i1.get ha;have hh:=λst=>xQw gl w.l t3 x3 e3 i3 a z hz st;have hz0:=hz;obtain⟨o5,n5,t5,x5,t6,x6,rfl⟩:=hz.agg;simp only[go_sem,zE,zB,zA,zM,zS,zL,reduceCtorEq,f2,f3,f4,f10,f11,f12,lt_i hlt,yQ3 e1,iNn,hkz,fits];refine (hh _).mono ?_;rintro _ st1 ⟨rfl,rfl⟩;cases hb:hasL w.l a
  ·simp only[go_sem,zE,zB,zA,zM,zS,zL,reduceCtorEq,f2,f3,f4,f10,f11,f12,fits];rw[yKp];obtain⟨xl,xr,zl,zr,hbx,hsL,izl,hsR,izr,k1,k2,k3⟩:=hN;have hLk:(L++yXw (s.l.take k) w.l).length<=1000000:=by
    have:=List.length_filter_le (λf=>!hasL w.l f) (s.l.take k);rw[List.length_take] at this;simp only[yXw,lLa];omega
   generalize hL:L++yXw (s.l.take k) w.l=Lk at *;have hne:Lk.length≠0↔Lk≠[]:=by cases Lk<;>simp
   obtain⟨S1,hS1⟩:∃S1:ISt,S1=if Lk=[] then st1 else st1.put gL none:=⟨_,rfl⟩
   have hS1b:S1 b=some (.box [xl,xr]):=by
    rw[hS1];split
    ·exact hbx
    ·rw[yQb ((k1 ‹_›).1).symm];exact hbx
   obtain⟨u,hu⟩:∃u:UP,u=⟨21,b,0,Lk.length,xl,.agg [.raw (.int .u8 o5),.raw (.string n5),.sl t5 x5,.sl t6 x6],.sl ⟨true,.full,4⟩ [.agg [.raw (.int .u8 0),.raw (.string ⟨#[]⟩),.sl ⟨true,.nil,0⟩ [],.sl ⟨true,.nil,0⟩ []]],st1,S1,λv=>[v,xr],λg cap cs=>S1 g=none/\Lk.length+1<=cap/\cap*4<=cs.length/\cs.take (Lk.length*4)=zl.flatMap IV.cells,
     λfr=>fr 2=.iv (ptrI b)/\fr 3=.box [.sl t1 x1,.sl t2 x2]/\fr 4=.box [.sl t3 x3,.sl t4 x4]/\fr 6=.box [.raw (.int .u8 o5),.raw (.string n5),.sl t5 x5,.sl t6 x6]/\fr 10=.iv (.sl t1 x1)/\fr 11=.iv (.raw (.int .i64 s.l.length))/\fr 12=.iv (.raw (.int .i64 k))⟩:=⟨_,rfl⟩
   have hn:∀g cap,ndO ((u.sl g cap).map (·.map (·.1)))=true:=λg cap=>UP.nd 21 g cap (by rw[hu]) rfl;have hP:∀fr d z,u.d<=d->d<u.d+8->u.P fr->u.P (fr.put d z):=by
    rw[hu];intro fr d z h1 h2 h3;simp only at h1 h2 h3 ⊢;obtain⟨a1,a2,a3,a4,a5,a6,a7⟩:=h3;simp only[Fr.put_apply];refine⟨?_,?_,?_,?_,?_,?_,?_⟩<;>(rw[if_neg (by omega)];assumption)
   have hgb:∀g cap cs,u.ok g cap cs->g≠u.b:=λg cap cs h=>by
    rw[hu] at h ⊢;intro hq;have h1:=h.1;rw[hq] at h1;rw[show S1 _=none from h1] at hS1b;cases hS1b
   refine yJ6 u.J ?_ ?_ _ _ _ _ _ _ rfl ?_
   ·intro listed ad fr st2 ds hz hJ i hi;replace hz:listed.size=10:=hz;obtain⟨h0,o,ho,hdep⟩:=mem_ready.1 hi;have his:i<10:=(Array.getElem?_eq_some_iff.1 ho).1;have hfl:listed.getD i false=false:=by
     rw[Array.getD_eq_getD_getElem?,Array.getElem?_eq_getElem (by omega)] at h0 ⊢;exact h0
    obtain⟨had,rfl,hF,hC,g,cap,cs,hsl,hT⟩:=hJ;have hF0:=hF;have h5:i<5->listed.getD 5 false=false:=λhi=>by
     cases hq:listed.getD 5 false
     ·rfl
     ·rw[hC.1 hq i hi] at hfl;cases hfl
    rw[hu] at hF;obtain⟨f2,f3,f4,f6,f10,f11,f12⟩:=hF;rcases (show i=0\/i=1\/i=2\/i=3\/i=4\/i=5\/i=6\/i=7\/i=8\/i=9 by omega) with rfl|rfl|rfl|rfl|rfl|rfl|rfl|rfl|rfl|rfl
    all_goals obtain rfl:=Option.some.inj ho
    ·unfold ptrI at f2;simp only[go_sem,zE,zB,zA,zM,zS,zL,reduceCtorEq,yQ5,had,f2,fits];refine UP.pure hn hP hz had hF0 hC hsl hT (by decide) (λh=>absurd h (by decide)) ?_;rw[hu];rfl
    ·have d0:=hsl 0 (hdep ⟨0,.data⟩ (by simp) rfl) _ _ rfl;simp only[hu,UP.new] at d0;obtain rfl:st2=st1:=by
      rcases hT with⟨_,h⟩|⟨h,_⟩
      ·rw[h,hu]
      ·rw[h5 (by decide)] at h;cases h
     simp only[go_sem,zE,zB,zA,zM,zS,zL,reduceCtorEq,yQ5,had,d0,hbx,fits];refine UP.pure hn hP hz had hF0 hC hsl hT (by decide) (λh=>absurd h (by decide)) ?_;rw[hu];rfl
    ·simp only[go_sem,zE,zB,zA,zM,zS,zL,reduceCtorEq,yQ5,had,f6,fits];refine UP.pure hn hP hz had hF0 hC hsl hT (by decide) (λh=>absurd h (by decide)) ?_;rw[hu];rfl
    ·have d1:=hsl 1 (hdep ⟨1,.data⟩ (by simp) rfl) _ _ rfl;simp only[hu,UP.new] at d1;rcases hsL with⟨hn0,hcz,fz,ez,rfl⟩|⟨hn0,cap0,cs0,rfl,_⟩
     ·simp only[go_sem,zE,zB,zA,zM,zS,zL,reduceCtorEq,yQ5,had,d1,fits];refine UP.pure hn hP hz had hF0 hC hsl hT (by decide) (λh=>absurd h (by decide)) ?_;rw[hu];simp only[UP.sl,hn0];rfl
     ·simp only[go_sem,zE,zB,zA,zM,zS,zL,reduceCtorEq,yQ5,had,d1,fits];refine UP.pure hn hP hz had hF0 hC hsl hT (by decide) (λh=>absurd h (by decide)) ?_;rw[hu];rfl
    ·simp only[go_sem,zE,zB,zA,zM,zS,zL,reduceCtorEq,yQ5,had,fits,yQ1,show allI zXk [Value.int IntKind.u8 0,Value.string { data:=#[] },Value.slice none 0 0,Value.slice none 0 0]=some [.raw (.int .u8 0),.raw (.string ⟨#[]⟩),.sl ⟨true,.nil,0⟩ [],.sl ⟨true,.nil,0⟩ []] from rfl];refine UP.pure hn hP hz had hF0 hC hsl hT (by decide) (λh=>absurd h (by decide)) ?_;rw[hu];rfl
    ·have hall:∀j,j<5->listed.getD j false=true:=λj hj=>by
      rcases (show j=0\/j=1\/j=2\/j=3\/j=4 by omega) with rfl|rfl|rfl|rfl|rfl
      all_goals exact hdep ⟨_,.phase⟩ (by simp) rfl
     obtain rfl:st2=st1:=by
      rcases hT with⟨_,h⟩|⟨h,_⟩
      ·rw[h,hu]
      ·rw[hfl] at h;cases h
     have happ:=λg' cap' cs' hok=>UP.app hn hP hz had hF0 hC hsl hall hfl (g':=g') (cap':=cap') (cs':=cs') hok;have d1:=hsl 1 (hdep ⟨1,.data⟩ (by simp) rfl) _ _ rfl;simp only[hu,UP.new] at d1;have d4:=hsl 4 (hdep ⟨4,.data⟩ (by simp) rfl) _ _ rfl;simp only[hu,UP.new] at d4;simp only[hu,UP.new] at happ;rcases hsL with⟨hn0,hcz,fz,ez,rfl⟩|⟨hn0,cap0,cs0,rfl,hg0,hkc0,hcc0,htk0,hgn0⟩
     ·obtain rfl:=List.length_eq_zero_iff.1 hn0;rw[if_pos rfl] at hS1;subst hS1;simp only[go_sem,zE,zB,zA,zM,zS,zL,reduceCtorEq,yQ5,had,d1,d4,fits];refine λg' cap'=>yQc λ⟨hg',hc'⟩=>?_;rw[hu];exact happ g' cap' _ ⟨hg',hc',by simp[IV.cells];omega,by rw[hcz];rfl⟩
     ·simp only[go_sem,zE,zB,zA,zM,zS,zL,reduceCtorEq,yQ5,had,d1,d4,fits];rw[if_neg (hne.1 (by omega))] at hS1;refine yKe _ _ _ (cs:=cs0) hg0 (by simp[fits,IV.one]) ⟨by simp only[List.length_singleton];omega,by simp only[List.length_singleton];omega⟩ ⟨hkc0,hcc0⟩ (by simp[IV.cells]) ?_;rintro g' cap' cs' hgn' hc1 hc2 htk';rw[hu,<- hS1];refine happ g' cap' cs' ⟨?_,hc1,hc2,?_⟩
      ·rw[hS1,ISt.put_apply];split
       ·rfl
       ·exact hgn'.resolve_left ‹_›
      ·simp only[List.length_singleton] at htk';have hm:Lk.length*4<=cs0.length:=by omega
       rw[show cs'.take (Lk.length*4)=(cs'.take ((Lk.length+1)*4)).take (Lk.length*4) by rw[List.take_take,Nat.min_eq_left (by omega)],htk',List.take_append_of_le_length (by rw[List.length_take];omega),List.take_take,Nat.min_self,htk0]
    ·have hl5:=hdep ⟨5,.data⟩ (by simp) rfl;have d5:=hsl 5 (hdep ⟨5,.data⟩ (by simp) rfl) _ _ rfl;simp only[hu,UP.new] at d5;have d3:=hsl 3 (hdep ⟨3,.data⟩ (by simp) rfl) _ _ rfl;simp only[hu,UP.new] at d3;simp only[go_sem,zE,zB,zA,zM,zS,zL,reduceCtorEq,yQ5,had,d3,d5,fits,if_pos (show 0<=(Lk.length:Int)/\Lk.length<Lk.length+1 from⟨by omega,by omega⟩)];refine UP.pure hn hP hz had hF0 hC hsl hT (by decide) (λ_=>hl5) ?_;rw[hu];rfl
    ·have hl5:=hdep ⟨5,.chain⟩ (by simp) rfl;have d6:=hsl 6 (hdep ⟨6,.data⟩ (by simp) rfl) _ _ rfl;simp only[hu,UP.new] at d6;have d2:=hsl 2 (hdep ⟨2,.data⟩ (by simp) rfl) _ _ rfl;simp only[hu,UP.new] at d2;obtain⟨q1,q2⟩:=UP.cell hz had hF0 hC hsl hT hl5 hfl;have hok:=(hT.st5 hl5).1;rw[hu] at hok;obtain⟨_,hok1,hok2,_⟩:=hok;simp only[go_sem,zE,zB,zA,zM,zS,zL,reduceCtorEq,yQ5,had,d6,d2,fits,q1,if_pos (show Lk.length*4+4<=cs.length by omega)];simp only[hu] at q2 ⊢;exact q2
    ·unfold ptrI at f2;have hl5:=hdep ⟨5,.phase⟩ (by simp) rfl;simp only[go_sem,zE,zB,zA,zM,zS,zL,reduceCtorEq,yQ5,had,f2,fits];refine UP.pure hn hP hz had hF0 hC hsl hT (by decide) (λ_=>hl5) ?_;rw[hu];rfl
    ·have hl5:=hdep ⟨5,.data⟩ (by simp) rfl;have d8:=hsl 8 (hdep ⟨8,.data⟩ (by simp) rfl) _ _ rfl;simp only[hu,UP.new] at d8;have d5:=hsl 5 (hdep ⟨5,.data⟩ (by simp) rfl) _ _ rfl;simp only[hu,UP.new] at d5;obtain⟨q1,q2⟩:=UP.header hgb hz had hF0 hC hsl hT hl5 hfl;simp only[hu,UP.new] at q1 q2;rw[hS1b] at q1;simp only[go_sem,zE,zB,zA,zM,zS,zL,reduceCtorEq,yQ5,had,d8,d5,fits,q1,zGs];simp only[hu] at ⊢;exact q2
   ·intro listed ad fr st2 ds hz hr hJ;have hall:=zZ8 (by decide) hz hr;obtain⟨had,rfl,hF,hC,g,cap,cs,hsl,hT⟩:=hJ;obtain⟨hok,hst2⟩:=hT.st5 (hall 5 (by decide));rw[hall 7 (by decide),hall 9 (by decide)] at hst2;rw[hu] at hF hok hst2;obtain⟨f2,f3,f4,f6,f10,f11,f12⟩:=hF;obtain⟨hok0,hok1,hok2,hok3⟩:=hok;obtain⟨r1,r2,r3,r4,r5,r6,r7⟩:=more hsL izl hsR k1 k2 k3 hS1 hS1b hok0 hok1 hok2 hok3 hz0 rfl hst2;simp only[go_sem,zE,zB,zA,zM,zS,zL,reduceCtorEq,f2,f3,f4,f10,f11,f12,yQf hlt (show s.l.length<=281474976710656 by omega)];refine⟨g,?_⟩;rw[yQ7 ha,zQg,show yXw [a] w.l=[a] by simp[yXw,hb],<- List.append_assoc,hL];exact⟨_,_,_,_,r3,r4,r5,r6,izr,λ_=>⟨r1,r2⟩,k2,λc h1 h2 h3=>r7 c h1 (h2 (by simp)) h3⟩
   ·rw[hu];exact⟨λ_=>rfl,rfl,⟨f2,f3,f4,rfl,f10,f11,f12⟩,⟨(λh=>by rw[yXu] at h;cases h),(λi hi h=>by rw[yXu] at h;cases h)⟩,0,0,[],SlotsOk.start _ _ _,.inl ⟨rfl,rfl⟩⟩
  ·simp only[go_sem,zE,zB,zA,zM,zS,zL,reduceCtorEq,f2,f3,f4,f10,f11,f12,yQf hlt (show s.l.length<=281474976710656 by omega)];refine⟨gL,?_⟩;rw[yQ7 ha,zQg,show yXw [a] w.l=[] by simp[yXw,hb],List.append_nil];exact hN
 ·rintro fr st1 _ ⟨⟨gL,hN⟩,f2,f3,f4,f10,f11,f12,rfl⟩;rw[lTl] at hN;simp only[go_sem,zE,zB,zA,zM,zS,zL,reduceCtorEq,f2,f3,f4,f10,f11,f12,yQo (nLi _),i2.len,fits];intro _;refine LoopC.ctr s.r.length (λk fr st' ds=>(∃gR,NeedO s0 st' b gL gR (L++yXw s.l w.l) (R++yXw (s.r.take k) w.r))/\fr 2=.iv (ptrI b)/\fr 4=.box [.sl t3 x3,.sl t4 x4]/\fr 31=.iv (.sl t2 x2)/\fr 32=.iv (.raw (.int .i64 s.r.length))/\fr 33=.iv (.raw (.int .i64 k))/\ds=[]) ?_ ?_ ?_
  ·simp only[go_sem,zE,zB,zA,zM,zS,zL,reduceCtorEq,f2,f3,f4];exact⟨⟨gR,by simpa[yXw] using hN⟩,rfl⟩
  ·rintro k fr st1 _ hlt ⟨⟨gR,hN⟩,f2,f4,f31,f32,f33,rfl⟩;obtain⟨a,ha⟩:=yQ4 hlt;obtain⟨z,hkz,hz⟩:=i2.get ha;have hh:=λst=>xQw gl w.r t4 x4 e4 i4 a z hz st;have hz0:=hz;obtain⟨o5,n5,t5,x5,t6,x6,rfl⟩:=hz.agg;simp only[go_sem,zE,zB,zA,zM,zS,zL,reduceCtorEq,f2,f4,f31,f32,f33,lt_i hlt,yQ3 e2,iNn,hkz,fits];refine (hh _).mono ?_;rintro _ st1 ⟨rfl,rfl⟩;generalize L++yXw s.l w.l=L' at *;cases hb:hasL w.r a
   ·simp only[go_sem,zE,zB,zA,zM,zS,zL,reduceCtorEq,f2,f4,f31,f32,f33,fits];rw[yKp];obtain⟨xl,xr,zl,zr,hbx,hsL,izl,hsR,izr,k1,k2,k3⟩:=hN;have hRk:(R++yXw (s.r.take k) w.r).length<=1000000:=by
     have:=List.length_filter_le (λf=>!hasL w.r f) (s.r.take k);rw[List.length_take] at this;simp only[yXw,lLa];omega
    generalize hR:R++yXw (s.r.take k) w.r=Rk at *;have hne:Rk.length≠0↔Rk≠[]:=by cases Rk<;>simp
    obtain⟨S1,hS1⟩:∃S1:ISt,S1=if Rk=[] then st1 else st1.put gR none:=⟨_,rfl⟩
    have hS1b:S1 b=some (.box [xl,xr]):=by
     rw[hS1];split
     ·exact hbx
     ·rw[yQb (k2 ‹_›).symm];exact hbx
    obtain⟨u,hu⟩:∃u:UP,u=⟨42,b,1,Rk.length,xr,.agg [.raw (.int .u8 o5),.raw (.string n5),.sl t5 x5,.sl t6 x6],.sl ⟨true,.full,4⟩ [.agg [.raw (.int .u8 0),.raw (.string ⟨#[]⟩),.sl ⟨true,.nil,0⟩ [],.sl ⟨true,.nil,0⟩ []]],st1,S1,λv=>[xl,v],λg cap cs=>S1 g=none/\Rk.length+1<=cap/\cap*4<=cs.length/\cs.take (Rk.length*4)=zr.flatMap IV.cells,
      λfr=>fr 2=.iv (ptrI b)/\fr 4=.box [.sl t3 x3,.sl t4 x4]/\fr 8=.box [.raw (.int .u8 o5),.raw (.string n5),.sl t5 x5,.sl t6 x6]/\fr 31=.iv (.sl t2 x2)/\fr 32=.iv (.raw (.int .i64 s.r.length))/\fr 33=.iv (.raw (.int .i64 k))⟩:=⟨_,rfl⟩
    have hn:∀g cap,ndO ((u.sl g cap).map (·.map (·.1)))=true:=λg cap=>UP.nd 42 g cap (by rw[hu]) rfl;have hP:∀fr d z,u.d<=d->d<u.d+8->u.P fr->u.P (fr.put d z):=by
     rw[hu];intro fr d z h1 h2 h3;simp only at h1 h2 h3 ⊢;obtain⟨a1,a2,a3,a4,a5,a6⟩:=h3;simp only[Fr.put_apply];refine⟨?_,?_,?_,?_,?_,?_⟩<;>(rw[if_neg (by omega)];assumption)
    have hgb:∀g cap cs,u.ok g cap cs->g≠u.b:=λg cap cs h=>by
     rw[hu] at h ⊢;intro hq;have h1:=h.1;rw[hq] at h1;rw[show S1 _=none from h1] at hS1b;cases hS1b
    refine yJ6 u.J ?_ ?_ _ _ _ _ _ _ rfl ?_
    ·intro listed ad fr st2 ds hz hJ i hi;replace hz:listed.size=10:=hz;obtain⟨h0,o,ho,hdep⟩:=mem_ready.1 hi;have his:i<10:=(Array.getElem?_eq_some_iff.1 ho).1;have hfl:listed.getD i false=false:=by
      rw[Array.getD_eq_getD_getElem?,Array.getElem?_eq_getElem (by omega)] at h0 ⊢;exact h0
     obtain⟨had,rfl,hF,hC,g,cap,cs,hsl,hT⟩:=hJ;have hF0:=hF;have h5:i<5->listed.getD 5 false=false:=λhi=>by
      cases hq:listed.getD 5 false
      ·rfl
      ·rw[hC.1 hq i hi] at hfl;cases hfl
     rw[hu] at hF;obtain⟨f2,f4,f8,f31,f32,f33⟩:=hF;rcases (show i=0\/i=1\/i=2\/i=3\/i=4\/i=5\/i=6\/i=7\/i=8\/i=9 by omega) with rfl|rfl|rfl|rfl|rfl|rfl|rfl|rfl|rfl|rfl
     all_goals obtain rfl:=Option.some.inj ho
     ·unfold ptrI at f2;simp only[go_sem,zE,zB,zA,zM,zS,zL,reduceCtorEq,yQ5,had,f2,fits];refine UP.pure hn hP hz had hF0 hC hsl hT (by decide) (λh=>absurd h (by decide)) ?_;rw[hu];rfl
     ·have d0:=hsl 0 (hdep ⟨0,.data⟩ (by simp) rfl) _ _ rfl;simp only[hu,UP.new] at d0;obtain rfl:st2=st1:=by
       rcases hT with⟨_,h⟩|⟨h,_⟩
       ·rw[h,hu]
       ·rw[h5 (by decide)] at h;cases h
      simp only[go_sem,zE,zB,zA,zM,zS,zL,reduceCtorEq,yQ5,had,d0,hbx,fits];refine UP.pure hn hP hz had hF0 hC hsl hT (by decide) (λh=>absurd h (by decide)) ?_;rw[hu];rfl
     ·simp only[go_sem,zE,zB,zA,zM,zS,zL,reduceCtorEq,yQ5,had,f8,fits];refine UP.pure hn hP hz had hF0 hC hsl hT (by decide) (λh=>absurd h (by decide)) ?_;rw[hu];rfl
     ·have d1:=hsl 1 (hdep ⟨1,.data⟩ (by simp) rfl) _ _ rfl;simp only[hu,UP.new] at d1;rcases hsR with⟨hn0,hcz,fz,ez,rfl⟩|⟨hn0,cap0,cs0,rfl,_⟩
      ·simp only[go_sem,zE,zB,zA,zM,zS,zL,reduceCtorEq,yQ5,had,d1,fits];refine UP.pure hn hP hz had hF0 hC hsl hT (by decide) (λh=>absurd h (by decide)) ?_;rw[hu];simp only[UP.sl,hn0];rfl
      ·simp only[go_sem,zE,zB,zA,zM,zS,zL,reduceCtorEq,yQ5,had,d1,fits];refine UP.pure hn hP hz had hF0 hC hsl hT (by decide) (λh=>absurd h (by decide)) ?_;rw[hu];rfl
     ·simp only[go_sem,zE,zB,zA,zM,zS,zL,reduceCtorEq,yQ5,had,fits,yQ1,show allI zXk [Value.int IntKind.u8 0,Value.string { data:=#[] },Value.slice none 0 0,Value.slice none 0 0]=some [.raw (.int .u8 0),.raw (.string ⟨#[]⟩),.sl ⟨true,.nil,0⟩ [],.sl ⟨true,.nil,0⟩ []] from rfl];refine UP.pure hn hP hz had hF0 hC hsl hT (by decide) (λh=>absurd h (by decide)) ?_;rw[hu];rfl
     ·have hall:∀j,j<5->listed.getD j false=true:=λj hj=>by
       rcases (show j=0\/j=1\/j=2\/j=3\/j=4 by omega) with rfl|rfl|rfl|rfl|rfl
       all_goals exact hdep ⟨_,.phase⟩ (by simp) rfl
      obtain rfl:st2=st1:=by
       rcases hT with⟨_,h⟩|⟨h,_⟩
       ·rw[h,hu]
       ·rw[hfl] at h;cases h
      have happ:=λg' cap' cs' hok=>UP.app hn hP hz had hF0 hC hsl hall hfl (g':=g') (cap':=cap') (cs':=cs') hok;have d1:=hsl 1 (hdep ⟨1,.data⟩ (by simp) rfl) _ _ rfl;simp only[hu,UP.new] at d1;have d4:=hsl 4 (hdep ⟨4,.data⟩ (by simp) rfl) _ _ rfl;simp only[hu,UP.new] at d4;simp only[hu,UP.new] at happ;rcases hsR with⟨hn0,hcz,fz,ez,rfl⟩|⟨hn0,cap0,cs0,rfl,hg0,hkc0,hcc0,htk0,hgn0⟩
      ·obtain rfl:=List.length_eq_zero_iff.1 hn0;rw[if_pos rfl] at hS1;subst hS1;simp only[go_sem,zE,zB,zA,zM,zS,zL,reduceCtorEq,yQ5,had,d1,d4,fits];refine λg' cap'=>yQc λ⟨hg',hc'⟩=>?_;rw[hu];exact happ g' cap' _ ⟨hg',hc',by simp[IV.cells];omega,by rw[hcz];rfl⟩
      ·simp only[go_sem,zE,zB,zA,zM,zS,zL,reduceCtorEq,yQ5,had,d1,d4,fits];rw[if_neg (hne.1 (by omega))] at hS1;refine yKe _ _ _ (cs:=cs0) hg0 (by simp[fits,IV.one]) ⟨by simp only[List.length_singleton];omega,by simp only[List.length_singleton];omega⟩ ⟨hkc0,hcc0⟩ (by simp[IV.cells]) ?_;rintro g' cap' cs' hgn' hc1 hc2 htk';rw[hu,<- hS1];refine happ g' cap' cs' ⟨?_,hc1,hc2,?_⟩
       ·rw[hS1,ISt.put_apply];split
        ·rfl
        ·exact hgn'.resolve_left ‹_›
       ·simp only[List.length_singleton] at htk';have hm:Rk.length*4<=cs0.length:=by omega
        rw[show cs'.take (Rk.length*4)=(cs'.take ((Rk.length+1)*4)).take (Rk.length*4) by rw[List.take_take,Nat.min_eq_left (by omega)],htk',List.take_append_of_le_length (by rw[List.length_take];omega),List.take_take,Nat.min_self,htk0]
     ·have hl5:=hdep ⟨5,.data⟩ (by simp) rfl;have d5:=hsl 5 (hdep ⟨5,.data⟩ (by simp) rfl) _ _ rfl;simp only[hu,UP.new] at d5;have d3:=hsl 3 (hdep ⟨3,.data⟩ (by simp) rfl) _ _ rfl;simp only[hu,UP.new] at d3;simp only[go_sem,zE,zB,zA,zM,zS,zL,reduceCtorEq,yQ5,had,d3,d5,fits,if_pos (show 0<=(Rk.length:Int)/\Rk.length<Rk.length+1 from⟨by omega,by omega⟩)];refine UP.pure hn hP hz had hF0 hC hsl hT (by decide) (λ_=>hl5) ?_;rw[hu];rfl
     ·have hl5:=hdep ⟨5,.chain⟩ (by simp) rfl;have d6:=hsl 6 (hdep ⟨6,.data⟩ (by simp) rfl) _ _ rfl;simp only[hu,UP.new] at d6;have d2:=hsl 2 (hdep ⟨2,.data⟩ (by simp) rfl) _ _ rfl;simp only[hu,UP.new] at d2;obtain⟨q1,q2⟩:=UP.cell hz had hF0 hC hsl hT hl5 hfl;have hok:=(hT.st5 hl5).1;rw[hu] at hok;obtain⟨_,hok1,hok2,_⟩:=hok;simp only[go_sem,zE,zB,zA,zM,zS,zL,reduceCtorEq,yQ5,had,d6,d2,fits,q1,if_pos (show Rk.length*4+4<=cs.length by omega)];simp only[hu] at q2 ⊢;exact q2
     ·unfold ptrI at f2;have hl5:=hdep ⟨5,.phase⟩ (by simp) rfl;simp only[go_sem,zE,zB,zA,zM,zS,zL,reduceCtorEq,yQ5,had,f2,fits];refine UP.pure hn hP hz had hF0 hC hsl hT (by decide) (λ_=>hl5) ?_;rw[hu];rfl
     ·have hl5:=hdep ⟨5,.data⟩ (by simp) rfl;have d8:=hsl 8 (hdep ⟨8,.data⟩ (by simp) rfl) _ _ rfl;simp only[hu,UP.new] at d8;have d5:=hsl 5 (hdep ⟨5,.data⟩ (by simp) rfl) _ _ rfl;simp only[hu,UP.new] at d5;obtain⟨q1,q2⟩:=UP.header hgb hz had hF0 hC hsl hT hl5 hfl;simp only[hu,UP.new] at q1 q2;rw[hS1b] at q1;simp only[go_sem,zE,zB,zA,zM,zS,zL,reduceCtorEq,yQ5,had,d8,d5,fits,q1,zGs];simp only[hu] at ⊢;exact q2
    ·intro listed ad fr st2 ds hz hr hJ;have hall:=zZ8 (by decide) hz hr;obtain⟨had,rfl,hF,hC,g,cap,cs,hsl,hT⟩:=hJ;obtain⟨hok,hst2⟩:=hT.st5 (hall 5 (by decide));rw[hall 7 (by decide),hall 9 (by decide)] at hst2;rw[hu] at hF hok hst2;obtain⟨f2,f4,f8,f31,f32,f33⟩:=hF;obtain⟨hok0,hok1,hok2,hok3⟩:=hok;obtain⟨r1,r2,r3,r4,r5,r6,r7⟩:=more hsR izr hsL (λh=>⟨k2 h,λhl=>((k1 hl).2 h).symm⟩) (λhl=>(k1 hl).1) (λc h1 h2 h3=>k3 c h1 h3 h2) hS1 hS1b hok0 hok1 hok2 hok3 hz0 rfl hst2;simp only[go_sem,zE,zB,zA,zM,zS,zL,reduceCtorEq,f2,f4,f31,f32,f33,yQf hlt (show s.r.length<=281474976710656 by omega)];refine⟨g,?_⟩;rw[yQ7 ha,zQg,show yXw [a] w.r=[a] by simp[yXw,hb],<- List.append_assoc,hR];exact⟨_,_,_,_,r3,r6,izl,r4,r5,λhl=>⟨(k1 hl).1,λ_=>(r2 hl).symm⟩,λ_=>r1,λc h1 h2 h3=>r7 c h1 (h3 (by simp)) h2⟩
    ·rw[hu];exact⟨λ_=>rfl,rfl,⟨f2,f4,rfl,f31,f32,f33⟩,⟨(λh=>by rw[yXu] at h;cases h),(λi hi h=>by rw[yXu] at h;cases h)⟩,0,0,[],SlotsOk.start _ _ _,.inl ⟨rfl,rfl⟩⟩
   ·simp only[go_sem,zE,zB,zA,zM,zS,zL,reduceCtorEq,f2,f4,f31,f32,f33,yQf hlt (show s.r.length<=281474976710656 by omega)];refine⟨gR,?_⟩;rw[yQ7 ha,zQg,show yXw [a] w.r=[] by simp[yXw,hb],List.append_nil];exact hN
  ·rintro fr st1 _ ⟨⟨gR,hN⟩,f2,f4,f31,f32,f33,rfl⟩;rw[lTl] at hN;simp only[go_sem,zE,zB,zA,zM,zS,zL,reduceCtorEq,f2,f4,f31,f32,f33,yQo (nLi _)];exact yQ0 ⟨rfl,gL,gR,hN⟩
end Go.Proofs.Tryz
namespace Go.Proofs.Tryz
open Go Go.Iv
set_option maxRecDepth 4000
variable (gl:Nat->Option IV)
mutual
def xXh:Nd->List Mk->Prop
 | .mk m c w sub,l=>w=0/\xJt l=some (m,c)/\(if c=true then sub=[] else (yZx m).1≠0/\GrowsL sub l (yQs m 0))
def GrowsL:List Nd->List Mk->List (List Mk)->Prop
 | [],_,[]=>True
 | n::ns,l,q::qs=>xXh n (yZg l q)/\GrowsL ns l qs
 | [],_,_::_=>False
 | _::_,_,[]=>False
end
theorem GrowsL.len:∀ {ns:List Nd}{l:List Mk}{qs:List (List Mk)},GrowsL ns l qs->ns.length=qs.length
 | [],_,[],_=>rfl
 | _::_,_,_::_,h=>by rw[GrowsL] at h;simp[GrowsL.len h.2]
theorem GrowsL.get:∀ {ns:List Nd}{l:List Mk}{qs:List (List Mk)}{k:Nat}{n:Nd}{q:List Mk},GrowsL ns l qs->ns[k]?=some n->qs[k]?=some q->xXh n (yZg l q)
 | _::_,_,_::_,0,_,_,h,h1,h2=>by
  rw[GrowsL] at h;simp only[List.getElem?_cons_zero,Option.some.injEq] at h1 h2;subst h1 h2;exact h.1
 | _::_,_,_::_,k+1,_,_,h,h1,h2=>by
  rw[GrowsL] at h;exact GrowsL.get (k:=k) h.2 (by simpa using h1) (by simpa using h2)
theorem wWl {l:List Mk}{m:Mk}{c:Bool}(h:xJt l=some (m,c)):m∈l:=by
 unfold xJt at h;split at h
 ·rename_i m' hm;cases h;exact List.mem_of_find?_eq_some hm
 ·cases hq:(yKn l 1).find? λm=>!allT l (((yQs m 0)[0]?).getD []) with
  | none=>rw[hq] at h;cases h
  | some m' =>
   rw[hq] at h;cases h;have:=List.mem_of_find?_eq_some hq;rw[yKn,List.mem_filter] at this;exact this.1
theorem vQq {st S0:ISt}{tg:Tag}{n s gb:Nat}{cs:List IV}{o:Option IObj}(h:own st tg n s S0)(hg:st gb=some (.box cs)):own (st.put gb o) tg n s S0:=by
 rcases h with h|h|⟨g,h1,h2,h3⟩
 ·exact .inl h
 ·exact .inr (.inl h)
 ·exact .inr (.inr ⟨g,h1,by rw[yQb (λhq=>by rw[hq,hg] at h2;cases h2)];exact h2,h3⟩)
theorem wXc:∀ {l:List Nd}{xs:List IV}{z:IV},IsNds l xs->z∈xs->∃n,IsNd n z
 | [],xs,z,h,hx=>by simp only[IsNds] at h;subst h;cases hx
 | a::l,xs,z,h,hx=>by
  simp only[IsNds] at h;obtain⟨y,ys,rfl,hy,h⟩:=h;rcases List.mem_cons.1 hx with rfl|hx
  ·exact⟨a,hy⟩
  ·exact wXc h hx
theorem nd_d {b:Bool}{w o:Int}{n:ByteArray}{t t' tg:Tag}{xs xs' ys:List IV}{c:Bool}{w':Int}{k:Nat}{l:List Nd}(h:dfr (.agg [.raw (.bool b),.raw (.int .i64 w),.raw (.int .u8 o),.raw (.string n),.sl t xs,.sl t' xs']))(ha:appT k tg)(hd:dfrs ys)(hy:IsNds l ys) :
  dfr (.agg [.raw (.bool b),.raw (.int .i64 w),.raw (.int .u8 o),.raw (.string n),.sl t xs,.sl t' xs',.raw (.bool c),.raw (.int .i64 w'),.sl tg ys]):=by
 rw[dfr] at h ⊢;obtain⟨_,_,_,_,h5,h6,_⟩:=h.1;refine⟨⟨trivial,trivial,trivial,trivial,h5,h6,trivial,trivial,?_,trivial⟩,λx hx=>?_⟩
 ·rw[dfr];refine⟨ha.pos (Nat.succ_pos _),hd,λx hx=>?_⟩;obtain⟨z,hz,hxz⟩:=List.mem_flatMap.1 hx;obtain⟨n,hn⟩:=wXc hy hz;obtain⟨v3,w3,o3,n3,t3,y3,t4,y4,c5,w5,t6,y6,rfl⟩:=yY6 hn;simp only[IV.cells,List.mem_cons,List.not_mem_nil,or_false] at hxz;rcases hxz with rfl|rfl|rfl|rfl|rfl|rfl|rfl|rfl|rfl<;>rfl
 ·simp only[List.mem_cons,List.not_mem_nil,or_false] at hx;rcases hx with rfl|rfl|rfl|rfl|rfl|rfl|rfl|rfl|rfl<;>rfl
def wG2 (n:Nd):Prop:=∀(l:List Mk) (tb:Nat) (x:IV) (_:IsBr l tb x) (_:GoodT l) (_:∀m∈l,m.f.size<=1000) (_:l.length+2*n.nodes<=1000) (_:xXh n l) (st:ISt) (es:List (Value×IV)) (_:st tb=some (.map .sg es)) (_:zXs es) (gb v:Nat) (rest:List IV) (_:st gb=some (.box (.raw (.int .i64 v)::rest))) (_:v+n.nodes<=300),
 ICall prog gl 116 [ptrI gb,x] st (λr st'=>(∃z,r=.tup [z,.raw (.int .i64 0)]/\IsNd n z/\dfr z)/\st'=st.put gb (some (.box (.raw (.int .i64 (v+n.nodes:Nat))::rest))))
theorem wJj (m:Mk)(c:Bool)(w:Int)(sub:List Nd)(IH:∀a∈sub,wG2 gl a):wG2 gl (.mk m c w sub):=by
 intro l tb x hx hgood hsz hlen hgr st es hb ht gb v rest hgb hv;have hln:=yWh sub;rw[xXh] at hgr;obtain⟨rfl,hnx,hsub⟩:=hgr;simp only[Nd.nodes] at hlen hv;have hop:∀m∈l,m.f.op<=7:=λm hm=>by
  have h4:=(yJz.1 (hgood m hm).1).2.2.2;obtain⟨mi,mw,⟨o,n,us,sb⟩⟩:=m;simp only[opsB,bAt,dTe] at h4;show o<=7;simpa using h4.1.1.2
 have hnext:=λst hb=>vVd gl l tb x hx (by omega) hop m c hnx st es hb ht;have hml:m∈l:=wWl hnx;have hmo:=hop m hml;have hbel:=λq tg zs htg hzs hl st hb y hy=>wKg gl l tb x hx m y hy hmo q tg zs htg hzs hl st es hb ht;have hx0:=hx;obtain⟨t,xs,t',v',rfl,ht6,hap,hxs,ht1,htc⟩:=hx;have htg:tb≠gb:=λh=>by rw[h,hgb] at hb;cases hb
 have hw:IntKind.i64.wrap ((v:Int)+1)=((v+1:Nat):Int):=by rw[w64]<;>omega
 have hd:decide ((300:Int)<((v+1:Nat):Int))=false:=dEf (by omega);unfold ptrI;refine ICall.intro (c:=cf prog gl [] [] [3]) func116 rfl (by show _<=84;simp) (by kernel_rfl) ?_;simp only[go_sem,zE,zB,zA,zM,zS,zL,reduceCtorEq,fits,brI];refine (hnext _ hb).mono ?_;rintro _ st ⟨z,rfl,hz,rfl⟩;obtain⟨o,n,t1,x1,t2,x2,rfl,h1⟩:=hz;have d8:decide ((0:Int)=8)=false:=rfl;have hcp:=λst=>xYp gl m _ ⟨_,_,_,_,_,_,rfl,h1⟩ (by have:=hsz m hml;omega) st;cases c
 ·rw[if_neg (by decide)] at hsub;obtain⟨hfi,hsub⟩:=hsub;have hsl:=hsub.len;have hli:=λst hb=>zGz gl m _ ⟨_,_,_,_,_,_,rfl,h1⟩ hmo 0 st tb es hb ht;simp only[go_sem,zE,zB,zA,zM,zS,zL,reduceCtorEq,fits,hgb,hw,hd,d8,ISt.put_same,yQ8];refine (hli _ (by rw[yQb htg];exact hb)).mono ?_;rintro _ _ ⟨tq,qs,rfl,etq,iq,rfl⟩;simp only[go_sem,zE,zB,zA,zM,zS,zL,reduceCtorEq,fits,iq.len];intro _;obtain⟨S0,hS0⟩:∃S0,S0=st.put gb none:=⟨_,rfl⟩
  have hS0t:S0 tb=some (.map .sg es):=by rw[hS0,yQb htg];exact hb
  have hkeep:∀(st':ISt) o,subSt S0 st'->subSt S0 (st'.put gb o):=λst' o h c y hc=>by
   have:c≠gb:=λhq=>by rw[hq,hS0,ISt.put_same] at hc;cases hc
   rw[yQb this];exact h c y hc
  refine LoopC.ctr sub.length (λk fr st' ds=>(∃tg' ys,fr 6=.box [.raw (.bool m.is),.raw (.int .i64 m.w),.raw (.int .u8 o),.raw (.string n),.sl t1 x1,.sl t2 x2,.raw (.bool false),.raw (.int .i64 0),.sl tg' ys]/\IsNds (sub.take k) ys/\(dfrs ys/\appT k tg')/\own st' tg' k 9 S0/\subSt S0 st') /\
   st' gb=some (.box (.raw (.int .i64 (v+1+yQp (sub.take k):Nat))::rest))/\fr 0=.iv (.raw (.pointer (some ⟨gb,0,none⟩)))/\fr 3=.iv (.cptr (.agg (brI tb t xs t' v')))/\fr 4=.box ndZ/\fr 53=.iv (.sl tq qs)/\fr 54=.iv (.raw (.int .i64 sub.length))/\fr 55=.iv (.raw (.int .i64 k))/\ds=[]) ?_ ?_ ?_
  ·simp only[go_sem,zE,zB,zA,zM,zS,zL,reduceCtorEq,hsl];exact⟨⟨⟨true,.nil,0⟩,[],rfl,rfl,⟨trivial,.inl rfl⟩,.inl ⟨rfl,rfl⟩,λc y hc=>by
    have:c≠gb:=λhq=>by rw[hq,hS0,ISt.put_same] at hc;cases hc
    rw[hS0,yQb this] at hc;rw[yQb this];exact hc⟩,by simp[yQp],by first|rfl|exact⟨rfl,rfl⟩|exact⟨rfl,rfl,rfl⟩⟩
  ·rintro k fr st1 _ hlt ⟨⟨tg',ys,f6,hys,hyd,hown,hss⟩,hg1,f0,f3,f4,f53,f54,f55,rfl⟩;obtain⟨a,ha⟩:=yQ4 hlt;obtain⟨q,hq⟩:=yQ4 (show k<(yQs m 0).length by omega);obtain⟨tk,zk,hkq,etk,izk⟩:=iq.get hq;have hqm:=lMg hq;have ham:=lMg ha;have hq2:=yG2 m 0 q hqm;have hal:=yXc q l;have hna:=yJr ham;have hnt:=yY4 sub (k+1);have hsn:yQp (sub.take (k+1))=yQp (sub.take k)+a.nodes:=by rw[yQ7 ha,yJs];simp[yQp]
   have hg':GoodT (yZg l q):=hgood.adds λx hx=>by
    obtain⟨h1,h2⟩:=(zQy (hgood m hml).1 hfi 0).2.2.1 q hqm x hx;exact⟨h1,h2.trans (hgood m hml).2⟩
   have hs':∀x∈yZg l q,x.f.size<=1000:=λx hx=>(yWe.1 hx).elim (hsz x) λh=>Nat.le_trans (zKm (hgood m hml).1 hfi 0 q hqm x h) (hsz m hml);simp only[go_sem,zE,zB,zA,zM,zS,zL,reduceCtorEq,f0,f3,f4,f6,f53,f54,f55,lt_i hlt,yQ3 etq,iNn,hkq,fits];refine (hbel q tk zk etk izk (by omega) _ (hss _ _ hS0t) _ ⟨_,_,_,_,_,_,rfl,h1⟩).mono ?_;rintro y st1 ⟨hy,rfl⟩;have hrec:=IH a ham (yZg l q) tb y hy hg' hs' (by omega) (hsub.get ha hq) st1 es (hss _ _ hS0t) ht gb _ rest hg1 (by omega);obtain⟨ty,xy,ty',vy,rfl,_⟩:=hy;simp only[go_sem,zE,zB,zA,zM,zS,zL,reduceCtorEq,f0,f3,f4,f6,f53,f54,f55,fits,brI];refine hrec.mono ?_;rintro _ _ ⟨⟨z,rfl,hz,hzd⟩,rfl⟩;have hz0:=hz;obtain⟨v3,w3,o3,n3,t3,y3,t4,y4,c5,w5,t6,y6,rfl⟩:=yY6 hz;simp only[go_sem,zE,zB,zA,zM,zS,zL,reduceCtorEq,f0,f3,f4,f6,f53,f54,f55,fits,yQ1,decide_true,Bool.not_true];refine yXb (vQq hown hg1) (by rw[hys.len,List.length_take];omega) (hkeep _ _ hss) rfl (by simp[fits,IV.one]) (by simp only;omega) (by omega) λtg3 st5 hown3 hsub5 hkf hap3=>?_;simp only[go_sem,zE,zB,zA,zM,zS,zL,reduceCtorEq,f0,f3,f4,f6,f53,f54,f55,fits,yQf hlt (show sub.length<=281474976710656 by omega)];refine⟨⟨tg3,_,rfl,by rw[yQ7 ha];exact hys.append ⟨_,_,rfl,hz0,rfl⟩,⟨yKc hyd.1 ⟨hzd,trivial⟩,hap3⟩,hown3,hsub5⟩,?_,rfl⟩;rw[hkf gb _ (ISt.put_same ..) (λn=>by simp),hsn,Nat.add_assoc]
  ·rintro fr st1 _ ⟨⟨tg',ys,f6,hys,hyd,hown,hss⟩,hg1,f0,f3,f4,f53,f54,f55,rfl⟩;rw[lTl] at hys hg1;simp only[go_sem,zE,zB,zA,zM,zS,zL,reduceCtorEq,f0,f3,f4,f6,f54,f55,yQo (nLi _),fits];refine (hcp _).mono ?_;rintro r _ ⟨⟨hr,hrd⟩,rfl⟩;obtain⟨o3,n3,t3,x3,t4,x4,rfl,h4⟩:=hr;simp only[go_sem,zE,zB,zA,zM,zS,zL,reduceCtorEq,f4,f6,ndZ,fits];refine yQa (st':=st.put gb (some (.box (.raw (.int .i64 (v+(Nd.mk m false 0 sub).nodes:Nat))::rest)))) (λc y hc=>?_) ⟨⟨_,rfl,?_,nd_d hrd hyd.2 hyd.1 hys⟩,rfl⟩
   ·by_cases hcg:c=gb
    ·rw[hcg,ISt.put_same] at hc;rw[hcg,hg1,<- hc,Nd.nodes,Nat.add_assoc]
    ·rw[yQb hcg] at hc;exact hss c y (by rw[hS0,yQb hcg];exact hc)
   ·simp only[IsNd];exact⟨_,_,_,_,_,_,_,_,rfl,h4,hown.es,hys⟩
 ·rw[if_pos rfl] at hsub;subst hsub;simp only[go_sem,zE,zB,zA,zM,zS,zL,reduceCtorEq,fits,hgb,hw,hd,d8,ISt.put_same,yQ8];refine (hcp _).mono ?_;rintro r _ ⟨⟨hr,hrd⟩,rfl⟩;obtain⟨o3,n3,t3,x3,t4,x4,rfl,h4⟩:=hr;simp only[go_sem,zE,zB,zA,zM,zS,zL,reduceCtorEq,fits];refine yQ0 ⟨⟨_,rfl,?_,nd_d (k:=0) (l:=[]) hrd (.inl rfl) trivial rfl⟩,by simp only[Nd.nodes,yQp]⟩;simp only[IsNd];exact⟨_,_,_,_,_,_,_,_,rfl,h4,.inl rfl,rfl⟩
theorem xYc:∀(k:Nat)(n:Nd),SizeOf.sizeOf n<k->wG2 gl n
 | 0,_,h=>absurd h (by omega)
 | k+1,.mk m c w sub,h=>wJj gl m c w sub λa ha=>xYc k a (by have:=lSm ha;simp only[Nd.mk.sizeOf_spec] at h;omega)
theorem vVt (n:Nd):wG2 gl n:=xYc gl _ n (Nat.lt_succ_self _)
def blZ:List IV:=[.raw (.int .u8 0),.raw (.map none),.sl ⟨true,.nil,0⟩ [],.sl ⟨true,.nil,0⟩ []]
def BldJ (z bz:List IV)(b:Nat)(st0:ISt)(listed:Array Bool):Kt:=λad fr st ds=>(∀s,ad s=none)/\st=st0/\ds=[]/\fr 7=.iv (ptrI b)/\fr 8=.box z/\fr 9=.iv (.raw (.int .i64 0))/\(listed.getD 0 false=true->fr 28=.iv (.agg z)) /\
 (listed.getD 1 false=true->fr 29=.iv (.agg bz))/\(listed.getD 2 false=true->fr 30=.iv (.raw (.int .i64 0)))/\fr 4=.box (if listed.getD 3 false=true then z else ndZ)/\fr 5=.box (if listed.getD 4 false=true then bz else .raw (.int .i64 0)::blZ)/\(listed.getD 5 false=true->fr 6=.iv (.raw (.int .i64 0)))
theorem wVq (G:Gl gl)(s:Sq)(x:IV)(hx:IsSq s x)(hw:wFms s.l+wFms s.r<=300)(hv:yKu s=true)(n:Nd)(hn:n.nodes<=100)(hg:xXh n (yZi s))(st:ISt) :
  ICall prog gl 84 [.raw (.int .u8 1),x] st (λr st'=>(∃z v,r=.tup [z,.agg (.raw (.int .i64 v)::blZ),.raw (.int .i64 0)]/\IsNd n z/\dfr z)/\st'=st):=by
 have hk:=λst=>zG9 gl st;have hV:=λst=>zGa gl G s x hx (zJ9 hw) st;rw[hv] at hV;have h3:=yQw s.l;have h4:=yQw s.r;have h5:=yZt s.l;have h6:=yZt s.r;have hbeg:=λst=>wKi gl s x hx (by omega) st;have hsz:∀m∈yZi s,m.f.size<=1000:=λm hm=>by
  rcases (yVk.1 hm).2 with h|h
  ·have:=yXh h.2;omega
  ·have:=yXh h.2;omega
 have hlen:(yZi s).length+2*n.nodes<=1000:=by
  have:=yXc (yVl s) [];have h3:(yVl s).length=s.l.length+s.r.length:=by simp[yVl]
  unfold yZi;simp only[List.length_nil] at this;omega
 obtain⟨tl,xl,tr,xr,rfl,e1,i1,e2,i2⟩:=hx;refine ICall.intro (c:=cf prog gl [7,29] [(7,[])]) func84 rfl (by show _<=31;simp) (by kernel_rfl) ?_;simp only[go_sem,zE,zB,zA,zM,zS,zL,reduceCtorEq,fits];refine λb=>yQc λhb=>?_;refine (hk _).mono ?_;rintro _ st1 ⟨rfl,hst1⟩;simp only[go_sem,zE,zB,zA,zM,zS,zL,reduceCtorEq,fits];refine (hV _).mono ?_;rintro _ st1 ⟨rfl,rfl⟩;simp only[go_sem,zE,zB,zA,zM,zS,zL,reduceCtorEq,fits];refine (hbeg _).mono ?_;rintro r _ ⟨tb,es,htb,hok,hbr,rfl⟩;have hbr0:=hbr;obtain⟨t,xs,t',v',rfl,_⟩:=hbr;have hbt:b≠tb:=λh=>by rw[<- h,hst1,ISt.put_same] at htb;cases htb
 simp only[go_sem,zE,zB,zA,zM,zS,zL,reduceCtorEq,fits,brI];refine (vVt gl n (yZi s) tb _ hbr0 (yWl hv) hsz hlen hg _ es (ISt.put_same ..) hok b 0 blZ (by rw[yQb hbt,hst1,ISt.put_same];rfl) (by omega)).mono ?_;rintro _ _ ⟨⟨z,rfl,hz,hzd⟩,rfl⟩;have hz0:=hz;obtain⟨v1,w1,o1,n1,t1,y1,t2,y2,c1,w2,t3,y3,rfl⟩:=yY6 hz;simp only[go_sem,zE,zB,zA,zM,zS,zL,reduceCtorEq,fits,ISt.put_same,blZ];rw[yKp];refine yJ6 (BldJ [.raw (.bool v1),.raw (.int .i64 w1),.raw (.int .u8 o1),.raw (.string n1),.sl t1 y1,.sl t2 y2,.raw (.bool c1),.raw (.int .i64 w2),.sl t3 y3] (.raw (.int .i64 (n.nodes:Nat))::blZ) b ((st1.put tb (some (.map .sg es))).put b (some (.box (.raw (.int .i64 (n.nodes:Nat))::blZ))))) ?_ ?_ _ _ _ _ _ _ rfl ?_
 ·intro listed ad fr st ds hz hJ i hi;replace hz:listed.size=6:=hz;obtain⟨h0,o,ho,hdep⟩:=mem_ready.1 hi;have his:i<6:=(Array.getElem?_eq_some_iff.1 ho).1;have hfl:listed.getD i false=false:=by
   rw[Array.getD_eq_getD_getElem?,Array.getElem?_eq_getElem (by omega)] at h0 ⊢;exact h0
  have e:∀j,i≠j->(listed.setIfInBounds i true).getD j false=listed.getD j false:=λj hj=>by rw[yQq (by omega),if_neg hj]
  have ei:(listed.setIfInBounds i true).getD i false=true:=by rw[yQq (by omega),if_pos rfl]
  obtain⟨had,rfl,rfl,f7,f8,f9,g0,g1,g2,f4,f5,g5⟩:=hJ;rcases (show i=0\/i=1\/i=2\/i=3\/i=4\/i=5 by omega) with rfl|rfl|rfl|rfl|rfl|rfl
  ·obtain rfl:_=o:=Option.some.inj ho;simp only[go_sem,zE,zB,zA,zM,zS,zL,reduceCtorEq,yQ5,had,f8];exact⟨yG0 had _,rfl,rfl,f7,f8,f9,λ_=>rfl,λh=>g1 (by rwa [e 1 (by decide)] at h),λh=>g2 (by rwa [e 2 (by decide)] at h),by rw[e 3 (by decide)];exact f4,by rw[e 4 (by decide)];exact f5,λh=>g5 (by rwa [e 5 (by decide)] at h)⟩
  ·obtain rfl:_=o:=Option.some.inj ho;simp only[go_sem,zE,zB,zA,zM,zS,zL,reduceCtorEq,yQ5,had,f7,ptrI,ISt.put_same,blZ];exact⟨yG0 had _,rfl,rfl,f7,f8,f9,λh=>g0 (by rwa [e 0 (by decide)] at h),λ_=>rfl,λh=>g2 (by rwa [e 2 (by decide)] at h),by rw[e 3 (by decide)];exact f4,by rw[e 4 (by decide)];exact f5,λh=>g5 (by rwa [e 5 (by decide)] at h)⟩
  ·obtain rfl:_=o:=Option.some.inj ho;simp only[go_sem,zE,zB,zA,zM,zS,zL,reduceCtorEq,yQ5,had,f9];exact⟨yG0 had _,rfl,rfl,f7,f8,f9,λh=>g0 (by rwa [e 0 (by decide)] at h),λh=>g1 (by rwa [e 1 (by decide)] at h),λ_=>rfl,by rw[e 3 (by decide)];exact f4,by rw[e 4 (by decide)];exact f5,λh=>g5 (by rwa [e 5 (by decide)] at h)⟩
  ·obtain rfl:_=o:=Option.some.inj ho;replace g0:=g0 (hdep ⟨0,.data⟩ (by simp) rfl);simp only[go_sem,zE,zB,zA,zM,zS,zL,reduceCtorEq,yQ5,had,g0,f4,hfl,ndZ,fits,if_false,bFt];exact⟨had,rfl,rfl,f7,f8,f9,λ_=>g0,λh=>g1 (by rwa [e 1 (by decide)] at h),λh=>g2 (by rwa [e 2 (by decide)] at h),by rw[ei];rfl,by rw[e 4 (by decide)];exact f5,λh=>g5 (by rwa [e 5 (by decide)] at h)⟩
  ·obtain rfl:_=o:=Option.some.inj ho;replace g1:=g1 (hdep ⟨1,.data⟩ (by simp) rfl);simp only[go_sem,zE,zB,zA,zM,zS,zL,reduceCtorEq,yQ5,had,g1,f5,hfl,blZ,fits,if_false,bFt];exact⟨had,rfl,rfl,f7,f8,f9,λh=>g0 (by rwa [e 0 (by decide)] at h),λ_=>g1,λh=>g2 (by rwa [e 2 (by decide)] at h),by rw[e 3 (by decide)];exact f4,by rw[ei];rfl,λh=>g5 (by rwa [e 5 (by decide)] at h)⟩
  ·obtain rfl:_=o:=Option.some.inj ho;replace g2:=g2 (hdep ⟨2,.data⟩ (by simp) rfl);simp only[go_sem,zE,zB,zA,zM,zS,zL,reduceCtorEq,yQ5,had,g2];exact⟨yG0 had _,rfl,rfl,f7,f8,f9,λh=>g0 (by rwa [e 0 (by decide)] at h),λh=>g1 (by rwa [e 1 (by decide)] at h),λ_=>g2,by rw[e 3 (by decide)];exact f4,by rw[e 4 (by decide)];exact f5,λ_=>rfl⟩
 ·intro listed ad fr st ds hz hr hJ;have hl:=zZ8 (by decide) hz hr;obtain⟨had,rfl,rfl,f7,f8,f9,g0,g1,g2,f4,f5,g5⟩:=hJ;rw[if_pos (hl 3 (by decide))] at f4;rw[if_pos (hl 4 (by decide))] at f5;have f6:=g5 (hl 5 (by decide));unfold blZ at f5;simp only[go_sem,zE,zB,zA,zM,zS,zL,reduceCtorEq,f4,f5,f6,fits];refine yQa (λc y hc=>?_) ⟨⟨_,_,rfl,hz0,hzd⟩,rfl⟩;have h1:c≠b:=λh=>by rw[h,hb] at hc;cases hc
  have h2:c≠tb:=λh=>by
   rw[h] at hc;rw[hst1,yQb hbt.symm,hc] at htb;cases htb
  rw[yQb h1,yQb h2,hst1,yQb h1];exact hc
 ·exact⟨λ_=>rfl,rfl,rfl,rfl,rfl,rfl,(λh=>nomatch h),(λh=>nomatch h),(λh=>nomatch h),rfl,rfl,λh=>nomatch h⟩
theorem vXm (G:Gl gl)(s:Sq)(x:IV)(hx:IsSq s x)(hw:wFms s.l+wFms s.r<=300)(hv:yKu s=true)(n:Nd)(hn:n.nodes<=100)(hg:xXh n (yZi s))(st:ISt) :
  ICall prog gl 38 [.raw (.int .u8 1),x] st (λr st'=>(∃z,r=.tup [z,.raw (.int .i64 0)]/\IsNd n z/\dfr z)/\st'=st):=by
 have hB:=λst=>wVq gl G s x hx hw hv n hn hg st;obtain⟨tl,xl,tr,xr,rfl,e1,i1,e2,i2⟩:=hx;refine iI func38 ?_;simp only[go_sem,zE,zB,zA,zM,zS,zL,reduceCtorEq,fits];refine (hB _).mono ?_;rintro _ _ ⟨⟨z,v,rfl,hz,hzd⟩,rfl⟩;have hz0:=hz;obtain⟨v1,w1,o1,n1,t1,y1,t2,y2,c1,w2,t3,y3,rfl⟩:=yY6 hz;simp only[go_sem,zE,zB,zA,zM,zS,zL,reduceCtorEq,fits,blZ];exact yQ0 ⟨⟨_,rfl,hz0,hzd⟩,rfl⟩
theorem yKt:∀l m:List Tr,yZ2 (l++m)=yZ2 l+yZ2 m
 | [],m=>by simp[yZ2]
 | a::l,m=>by simp only[List.cons_append,yZ2,yKt l m];omega
theorem xK2 {l:List Tr}{k:Nat}{a:Tr}(h:l[k]?=some a):yZ2 (l.take (k+1))=yZ2 (l.take k)+Tr.leaves a:=by
 rw[yQ7 h,yKt];simp[yZ2]
mutual
theorem xZk:∀t:Tr,Tr.leaves t<=t.steps
 | .mk _ _ _ _ _ sub=>by
  have:=yY9 sub;simp only[Tr.leaves,Tr.steps];split<;>omega
theorem yY9:∀l:List Tr,yZ2 l<=yQj l
 | []=>by simp[yZ2]
 | a::l=>by
  have:=xZk a;have:=yY9 l;simp only[yZ2,yQj];omega
end
def zU2 (t:Tr):Prop:=∀(x:IV) (_:IsTr t x) (_:t.steps<=1099511627776) (st:ISt),ICall prog gl 32 [x] st (λr st'=>r=.raw (.int .i64 (Tr.leaves t))/\st'=st)
theorem xK3 (rule:Nat)(s:Sq)(f:Fm)(u:Tm)(n:ByteArray)(sub:List Tr)(IH:∀a∈sub,zU2 gl a):zU2 gl (.mk rule s f u n sub):=by
 intro x hx hst st;obtain⟨tl,xl,tr,xr,op,fn,ta,xa,tb,xb,v,un,tu,xu,ts,xs,rfl,hru,e1,i1,e2,i2,hy,hz,e3,i3⟩:=hx.mk;simp only[Tr.steps] at hst;have hlsub:=yXa sub;have hle:=yY9 sub;refine iI func32 ?_;simp only[go_sem,zE,zB,zA,zM,zS,zL,reduceCtorEq,fits,i3.len];intro _;by_cases h0:sub.length=0
 ·obtain rfl:sub=[]:=List.eq_nil_of_length_eq_zero h0;simp only[go_sem,zE,zB,zA,zM,zS,zL,reduceCtorEq,List.length_nil,Int.natCast_zero,decide_true];exact yQ0 ⟨rfl,rfl⟩
 have hn0:decide ((sub.length:Int)=0)=false:=dEf (by omega);simp only[go_sem,zE,zB,zA,zM,zS,zL,reduceCtorEq,hn0];refine LoopC.ctr sub.length (λk fr st' ds=>fr 3=.iv (.raw (.int .i64 (yZ2 (sub.take k):Nat))) /\
  fr 1=.box [.raw (.int .u8 rule),.sl tl xl,.sl tr xr,.raw (.int .u8 op),.raw (.string fn),.sl ta xa,.sl tb xb,.raw (.bool v),.raw (.string un),.sl tu xu,.raw (.string n),.sl ts xs]/\fr 4=.iv (.raw (.int .i64 k))/\st'=st/\ds=[]) ?_ ?_ ?_
 ·simp only[go_sem,zE,zB,zA,zM,zS,zL,reduceCtorEq];exact⟨rfl,rfl⟩
 ·rintro k fr st1 _ hlt ⟨f3,f1,f4,rfl,rfl⟩;obtain⟨a,ha⟩:=yQ4 hlt;have ham:=lMg ha;obtain⟨z,hkz,hzz⟩:=i3.get ha;have hcall:=λst=>IH a ham z hzz (by have:=yVa ham;omega) st;obtain⟨rule',tl',xl',tr',xr',op',fn',ta',xa',tb',xb',v',un',tu',xu',n',ts',xs',rfl⟩:=yJk hzz;have hla:=xK2 ha;have hlk:yZ2 (sub.take (k+1))<=yZ2 sub:=by
   conv=>rhs;rw[<- List.take_append_drop (k+1) sub]
   rw[yKt];omega
  have hw:IntKind.i64.wrap (((yZ2 (sub.take k):Nat):Int)+((Tr.leaves a:Nat):Int))=((yZ2 (sub.take (k+1)):Nat):Int):=by rw[w64]<;>omega
  simp only[go_sem,zE,zB,zA,zM,zS,zL,reduceCtorEq,f1,f3,f4,i3.len,lt_i hlt,yQ3 e3,iNn,hkz,fits];intros;refine (hcall _).mono ?_;rintro _ st2 ⟨rfl,rfl⟩;simp only[go_sem,zE,zB,zA,zM,zS,zL,reduceCtorEq,f1,f3,f4,fits,hw,yQf hlt (show sub.length<=281474976710656 by omega)]
 ·rintro fr st1 _ ⟨f3,f1,f4,rfl,rfl⟩;rw[lTl] at f3;simp only[go_sem,zE,zB,zA,zM,zS,zL,reduceCtorEq,f1,f3,f4,i3.len,yQo (nLi _)];intros;refine yQ0 ⟨?_,rfl⟩;rw[Tr.leaves,if_neg (by simp only[List.isEmpty_iff];intro h;exact h0 (by rw[h];rfl))]
theorem zYh:∀(k:Nat)(t:Tr),SizeOf.sizeOf t<k->zU2 gl t
 | 0,t,h=>by omega
 | k+1,.mk r sq f u n sub,h=>xK3 gl r sq f u n sub (λa ha=>zYh k a (by
   have:=lSm ha;simp at h;omega))
theorem xWy (t:Tr):zU2 gl t:=zYh gl _ t (Nat.lt_succ_self _)
def xVy (t:Nd):Prop:=∀(x y:IV) (_:IsNd t x) (_:IsNd t y) (_:t.nodes<=1099511627776) (st:ISt),ICall prog gl 39 [x,y] st (λr st'=>r=.raw (.bool true)/\st'=st)
theorem xGl (m:Mk)(c:Bool)(w:Int)(sub:List Nd)(IH:∀a∈sub,xVy gl a):xVy gl (.mk m c w sub):=by
 intro x y hx hy hst st;obtain⟨o,n,t,xs,t',ys,ts,zs,rfl,hf,e3,i3⟩:=hx.mk;obtain⟨o2,n2,t2,xs2,t2',ys2,ts2,zs2,rfl,hf2,e32,i32⟩:=hy.mk;simp only[Nd.nodes] at hst;have hlsub:=yWh sub;have h2:=λst=>yUq gl m.f m.f _ _ hf hf2 st;have hs2:eqB m.f m.f=true:=yZa.2 rfl;refine iI func39 ?_;have e0:∀b:Bool,(b != b)=false:=λb=>by cases b<;>rfl
 simp only[go_sem,zE,zB,zA,zM,zS,zL,reduceCtorEq,fits,decide_true,e0];refine (h2 _).mono ?_;rintro _ st ⟨rfl,rfl⟩;simp only[go_sem,zE,zB,zA,zM,zS,zL,reduceCtorEq,fits,hs2,decide_true,e0,i3.len,i32.len];intros;refine LoopC.ctr sub.length (λk fr st' ds=>fr 2=.box [.raw (.bool m.is),.raw (.int .i64 m.w),.raw (.int .u8 o),.raw (.string n),.sl t xs,.sl t' ys,.raw (.bool c),.raw (.int .i64 w),.sl ts zs] /\
  fr 3=.box [.raw (.bool m.is),.raw (.int .i64 m.w),.raw (.int .u8 o2),.raw (.string n2),.sl t2 xs2,.sl t2' ys2,.raw (.bool c),.raw (.int .i64 w),.sl ts2 zs2]/\fr 5=.iv (.raw (.int .i64 k))/\st'=st/\ds=[]) ?_ ?_ ?_
 ·simp only[go_sem,zE,zB,zA,zM,zS,zL,reduceCtorEq];rfl
 ·rintro k fr st1 _ hlt ⟨f2,f3,f5,rfl,rfl⟩;obtain⟨a,ha⟩:=yQ4 hlt;have ham:=lMg ha;obtain⟨z,hkz,hzz⟩:=i3.get ha;obtain⟨z2,hkz2,hzz2⟩:=i32.get ha;have hcall:=λst=>IH a ham z z2 hzz hzz2 (by have:=yJr ham;omega) st;obtain⟨v3,w3,o3,n3,t4,y4,t5,y5,c5,w5,t6,y6,rfl⟩:=yY6 hzz;obtain⟨v3,w3,o3,n3,t4,y4,t5,y5,c5,w5,t6,y6,rfl⟩:=yY6 hzz2;simp only[go_sem,zE,zB,zA,zM,zS,zL,reduceCtorEq,f2,f3,f5,i3.len,i32.len,lt_i hlt,yQ3 e3,yQ3 e32,iNn,hkz,hkz2,fits];intros;refine (hcall _).mono ?_;rintro _ st2 ⟨rfl,rfl⟩;simp only[go_sem,zE,zB,zA,zM,zS,zL,reduceCtorEq,f2,f3,f5,fits,yQf hlt (show sub.length<=281474976710656 by omega)]
 ·rintro fr st1 _ ⟨f2,f3,f5,rfl,rfl⟩;simp only[go_sem,zE,zB,zA,zM,zS,zL,reduceCtorEq,f2,f3,f5,i3.len,yQo (nLi _)];intros;exact yQ0 ⟨rfl,rfl⟩
theorem xQo:∀(k:Nat)(t:Nd),SizeOf.sizeOf t<k->xVy gl t
 | 0,t,h=>by omega
 | k+1,.mk m c w sub,h=>xGl gl m c w sub (λa ha=>xQo k a (by
   have:=lSm ha;simp only[Nd.mk.sizeOf_spec] at h;omega))
theorem zYz (t:Nd):xVy gl t:=xQo gl _ t (Nat.lt_succ_self _)
end Go.Proofs.Tryz
namespace Go.Proofs.Tryz
open Go Go.Iv
set_option maxRecDepth 4000
theorem yKw {st:ISt}{y:IV}{v:Value}(h:OI st y (.raw v)):y=.raw v:=by cases h;rfl
theorem vQp {st:ISt}{y zi:IV}{v:Value}(h:OI st y (.tup [zi,.raw v]))(hy:rawY y):∃z,y=.tup [z,.raw v]/\OI st z zi/\rawY z:=by
 cases h with
 | refl =>
  simp only[rawY] at hy;exact⟨zi,rfl,.refl _,zK8 hy (by simp)⟩
 | tup rs _ hl h =>
  match rs,hl with
  | [a,b],_ =>
   obtain rfl:=yKw (h 1 _ _ rfl rfl);simp only[rawY] at hy;exact⟨a,rfl,h 0 _ _ rfl rfl,zK8 hy (by simp)⟩
theorem zY8 {N:ISt}{g:Nat}{cs cs':List IV}(hg:N g=some (.box cs))(hl:cs'.length=cs.length){y:IV}{t:Tag}(h:OI N y (.sl t [])):OI (N.put g (some (.box cs'))) y (.sl t []):=by
 cases h with
 | refl=>exact .refl _
 | nil _ h=>exact .nil _ h
 | sl g1 cap _ _ cs1 hcap hlen hcl hs hst hroom h =>
  by_cases hgg:g1=g
  ·subst hgg;rw[hg] at hst;cases hst;exact .sl g1 cap t [] cs' hcap hlen hcl hs (ISt.put_same ..) (by omega) λi r c _ hc=>by simp at hc
  ·exact .sl g1 cap t [] cs1 hcap hlen hcl hs (by rw[yQb hgg];exact hst) hroom λi r c _ hc=>by simp at hc
mutual
def noA:Fm->Bool
 | .mk _ _ us sub=>us.isEmpty&&noAs sub
def noAs:List Fm->Bool
 | []=>true
 | a::l=>noA a&&noAs l
end
theorem xWn:∀ {l:List Fm}{a:Fm},noAs l=true->a∈l->noA a=true
 | b::l,a,h,ha=>by
  simp only[noAs,bAt] at h;rcases List.mem_cons.1 ha with rfl|ha
  ·exact h.1
  ·exact xWn h.2 ha
theorem wX8:∀ {l:List Fm}{xs:List IV}{x:IV},IsFms l xs->x∈xs->∃f,f∈l/\IsFm f x
 | [],xs,x,h,hx=>by simp only[IsFms] at h;subst h;cases hx
 | a::l,xs,x,h,hx=>by
  simp only[IsFms] at h;obtain⟨y,ys,rfl,hy,h⟩:=h;rcases List.mem_cons.1 hx with rfl|hx
  ·exact⟨a,by simp,hy⟩
  ·obtain⟨f,hf,hx⟩:=wX8 h hx;exact⟨f,List.mem_cons_of_mem _ hf,hx⟩
theorem zJ7 {N:ISt}{g:Nat}{cs cs':List IV}(hg:N g=some (.box cs))(hb:∃b,cs[0]?=some (.raw (.bool b)))(hl:cs'.length=cs.length) :
  ∀(k:Nat) (l:List Fm),SizeOf.sizeOf l<k->noAs l=true->∀(t:Tag) (xs:List IV) (y:IV),IsFms l xs->OI N y (.sl t xs)->OI (N.put g (some (.box cs'))) y (.sl t xs)
 | 0,l,h,_,_,_,_,_,_=>absurd h (by omega)
 | k+1,l,hk,hno,t,xs,y,hx,h=>by
  cases h with
  | refl=>exact .refl _
  | nil _ h=>exact .nil _ h
  | sl g1 cap _ _ cs1 hcap hlen hcl hs hst hroom h =>
   by_cases hgg:g1=g
   ·subst hgg;cases l with
    | nil =>
     obtain rfl:xs=[]:=hx;exact zY8 hg hl (.sl g1 cap t [] cs1 hcap hlen hcl hs hst hroom h)
    | cons a l =>
     simp only[IsFms] at hx;obtain⟨z,ys,rfl,hz,_⟩:=hx;obtain⟨o,n,us,sub⟩:=a;obtain⟨t1,x1,t2,x2,rfl,_⟩:=hz.mk;obtain⟨b,hb⟩:=hb;rw[hg] at hst;cases hst;have:=yKw (h 0 _ (.raw (.int .u8 o)) hb (by simp[IV.cells]));cases this
   ·refine .sl g1 cap t xs cs1 hcap hlen hcl hs (by rw[yQb hgg];exact hst) hroom λi r c hr hc=>?_;have hrc:=h i r c hr hc;obtain⟨x,hxm,hcx⟩:=List.mem_flatMap.1 (lMg hc);obtain⟨f,hfl,hf⟩:=wX8 hx hxm;have hna:=xWn hno hfl;obtain⟨op,nm,us,sub⟩:=f;obtain⟨t1,x1,t2,x2,rfl,ho,e1,i1,e2,i2⟩:=hf.mk;simp only[noA,bAt,List.isEmpty_iff] at hna;obtain⟨rfl,hna⟩:=hna;obtain rfl:x1=[]:=i1;simp only[IV.cells,List.mem_cons,List.not_mem_nil,or_false] at hcx;rcases hcx with rfl|rfl|rfl|rfl
    ·rw[yKw hrc];exact .refl _
    ·rw[yKw hrc];exact .refl _
    ·exact zY8 hg hl hrc
    ·refine zJ7 hg hb hl k sub ?_ hna t2 x2 r i2 hrc;have:=lSm hfl;simp only[Fm.mk.sizeOf_spec] at this;omega
end Go.Proofs.Tryz
namespace Go.Proofs.Tryz
open Go Go.Iv
set_option maxRecDepth 8000
def xmP:Fm:=.mk 1 ⟨#[80]⟩ [] []
def xmQ:Fm:=.mk 1 ⟨#[81]⟩ [] []
def xmR:Fm:=.mk 1 ⟨#[82]⟩ [] []
def xmN:Fm:=.mk 3 ⟨#[]⟩ [] [xmP]
def xmO:Fm:=.mk 5 ⟨#[]⟩ [] [xmP,xmN]
def xmA:Fm:=.mk 4 ⟨#[]⟩ [] [xmP,xmQ]
def xmS:Sq:=⟨[],[xmO]⟩
def n3 (b:Bool):Nd:=.mk ⟨b,0,xmP⟩ true 0 []
def n2 (b:Bool):Nd:=.mk ⟨false,0,xmN⟩ false 0 [n3 b]
def n1 (b:Bool):Nd:=.mk ⟨false,0,xmO⟩ false 0 [n2 b]
def xmT:Tm:=.mk false ⟨#[]⟩ []
def xmW:Tr:=.mk 8 xmS xmO xmT ⟨#[]⟩ [.mk 4 ⟨[],[xmO,xmP,xmN]⟩ xmN xmT ⟨#[]⟩ [.mk 1 ⟨[xmP],[xmO,xmP,xmN]⟩ xmP xmT ⟨#[]⟩ []]]
def xmV:Tr:=.mk 8 xmS xmO xmT ⟨#[]⟩ [.mk 4 ⟨[],[xmP,xmN]⟩ xmN xmT ⟨#[]⟩ [.mk 1 ⟨[xmP],[xmP]⟩ xmP xmT ⟨#[]⟩ []]]
def xmX:Tr:=.mk 5 ⟨[xmR,xmA],[xmR]⟩ xmA xmT ⟨#[]⟩ [.mk 1 ⟨[xmP,xmQ,xmR,xmA],[xmR]⟩ xmR xmT ⟨#[]⟩ []]
def xmY:Tr:=.mk 1 ⟨[xmR],[xmR]⟩ xmR xmT ⟨#[]⟩ []
theorem wQa:yKu xmS=true:=rfl
theorem wQc:yZi xmS=[⟨false,0,xmO⟩]:=rfl
theorem zUs:yUg xmS (n1 false)=([],0):=rfl
theorem wQb:bigT (yZi xmS) (n1 false)=false:=rfl
theorem xV4:yW1 (yZi xmS) (n1 false)=xmW:=rfl
theorem wVg:xGx xmW=n1 true:=rfl
theorem zUr:yZp 1 xmW=([],0):=xV4▸(uYa (by rw[zUs]) wQb).1
theorem wVh:xmW.cuts=0:=rfl
end Go.Proofs.Tryz
namespace Go.Proofs.Tryz
open Go Go.Iv
set_option maxRecDepth 4000
variable (gl:Nat->Option IV)
theorem s_p (n:ByteArray)(st:ISt):ICall prog gl 23 [.raw (.string n)] st (λr st'=>r=.agg [.raw (.int .u8 1),.raw (.string n),.sl ⟨true,.nil,0⟩ [],.sl ⟨true,.nil,0⟩ []]/\st'=st):=by
 refine iI func23 ?_;simp only[go_sem,zE,zB,zA,zM,zS,zL,reduceCtorEq,fits];exact yQ0 ⟨rfl,rfl⟩
theorem s_of (o:Int)(t:Tag)(xs:List IV)(st:ISt):ICall prog gl 24 [.raw (.int .u8 o),.sl t xs] st (λr st'=>r=.agg [.raw (.int .u8 o),.raw (.string ⟨#[]⟩),.sl ⟨true,.nil,0⟩ [],.sl t xs]/\st'=st):=by
 refine iI func24 ?_;simp only[go_sem,zE,zB,zA,zM,zS,zL,reduceCtorEq,fits];exact yQ0 ⟨rfl,rfl⟩
theorem s_fs (t:Tag)(xs:List IV)(st:ISt):ICall prog gl 18 [.sl t xs] st (λr st'=>r=.sl t xs/\st'=st):=by
 refine iI func18 ?_;simp only[go_sem,zE,zB,zA,zM,zS,zL,reduceCtorEq,fits];exact yQ0 ⟨rfl,rfl⟩
theorem s_sq (t:Tag)(xs:List IV)(t':Tag)(ys:List IV)(st:ISt):ICall prog gl 17 [.sl t xs,.sl t' ys] st (λr st'=>r=.agg [.sl t xs,.sl t' ys]/\st'=st):=by
 refine iI func17 ?_;simp only[go_sem,zE,zB,zA,zM,zS,zL,reduceCtorEq,fits];exact yQ0 ⟨rfl,rfl⟩
theorem xW0 (rule o:Int)(n:ByteArray)(t:Tag)(x:List IV)(t':Tag)(x':List IV)(tl:Tag)(xl:List IV)(tr:Tag)(xr:List IV)(ts:Tag)(xs:List IV)(st:ISt) :
  ICall prog gl 25 [.raw (.int .u8 rule),.agg [.raw (.int .u8 o),.raw (.string n),.sl t x,.sl t' x'],.agg [.sl tl xl,.sl tr xr],.sl ts xs] st
  (λr st'=>r=.agg [.raw (.int .u8 rule),.sl tl xl,.sl tr xr,.raw (.int .u8 o),.raw (.string n),.sl t x,.sl t' x',.raw (.bool false),.raw (.string ⟨#[]⟩),.sl ⟨true,.nil,0⟩ [],.raw (.string ⟨#[]⟩),.sl ts xs]/\st'=st):=by
 refine iI func25 ?_;simp only[go_sem,zE,zB,zA,zM,zS,zL,reduceCtorEq,fits];exact yQ0 ⟨rfl,rfl⟩
theorem wUb {N:ISt}{r0 r1 r2 r3 r4 r5 r6 r7 r8 c0 c1 c2 c3 c4 c5 c6 c7 c8:IV}{rest:List IV}(h0:OI N r0 c0)(h1:OI N r1 c1)(h2:OI N r2 c2)(h3:OI N r3 c3)(h4:OI N r4 c4)(h5:OI N r5 c5)(h6:OI N r6 c6)(h7:OI N r7 c7)(h8:OI N r8 c8) :
  ∀(i:Nat) (r c:IV),(r0::r1::r2::r3::r4::r5::r6::r7::r8::rest)[i]?=some r->[c0,c1,c2,c3,c4,c5,c6,c7,c8][i]?=some c->OI N r c
 | 0,_,_,h,k=>by cases h;cases k;exact h0
 | 1,_,_,h,k=>by cases h;cases k;exact h1
 | 2,_,_,h,k=>by cases h;cases k;exact h2
 | 3,_,_,h,k=>by cases h;cases k;exact h3
 | 4,_,_,h,k=>by cases h;cases k;exact h4
 | 5,_,_,h,k=>by cases h;cases k;exact h5
 | 6,_,_,h,k=>by cases h;cases k;exact h6
 | 7,_,_,h,k=>by cases h;cases k;exact h7
 | 8,_,_,h,k=>by cases h;cases k;exact h8
 | i+9,_,_,_,k=>by simp at k
theorem len9:∀ {l:List IV},9<=l.length->∃r0 r1 r2 r3 r4 r5 r6 r7 r8 rest,l=r0::r1::r2::r3::r4::r5::r6::r7::r8::rest
 | r0::r1::r2::r3::r4::r5::r6::r7::r8::rest,_=>⟨r0,r1,r2,r3,r4,r5,r6,r7,r8,rest,rfl⟩
 | [],h=>by simp at h
 | [_],h=>by simp at h
 | [_,_],h=>by simp at h
 | [_,_,_],h=>by simp at h
 | [_,_,_,_],h=>by simp at h
 | [_,_,_,_,_],h=>by simp at h
 | [_,_,_,_,_,_],h=>by simp at h
 | [_,_,_,_,_,_,_],h=>by simp at h
 | [_,_,_,_,_,_,_,_],h=>by simp at h
theorem xJs {N:ISt}{r:IV}{t:Tag}{xs:List IV}(hr:rawC r)(h:OI N r (.sl t xs)):∃v,r=.raw v:=by
 rcases hr with⟨v,rfl⟩|rfl
 ·exact⟨v,rfl⟩
 ·cases h
theorem wX7 {N:ISt}{v:Value}{ts:Tag}{z:IV}(hraw:xGs N)(h:OI N (.raw v) (.sl ts [z])){b c:Bool}{w w' o:Int}{n:ByteArray}{t t' tt:Tag}{xs ys zs:List IV}
  (hz:z=.agg [.raw (.bool b),.raw (.int .i64 w),.raw (.int .u8 o),.raw (.string n),.sl t xs,.sl t' ys,.raw (.bool c),.raw (.int .i64 w'),.sl tt zs]) :
  ∃g cap v4 v5 v8 rest,v=.slice (some ⟨g,0,none⟩) 1 cap/\ts.cap=.app g/\ts.es=9/\1<=cap/\cap*9<=rest.length+9/\N g=some (.box (.raw (.bool b)::.raw (.int .i64 w)::.raw (.int .u8 o)::.raw (.string n)::.raw v4::.raw v5::.raw (.bool c)::.raw (.int .i64 w')::.raw v8::rest)) /\
   OI N (.raw v4) (.sl t xs)/\OI N (.raw v5) (.sl t' ys)/\OI N (.raw v8) (.sl tt zs):=by
 subst hz;cases h with
 | sl g cap _ _ cs hcap hlen hcl hs hst hroom h =>
  have he:9=ts.es:=hs _ (List.mem_singleton.2 rfl);have hc1:1<=cap:=hcl;rw[<- he] at hroom;obtain⟨r0,r1,r2,r3,r4,r5,r6,r7,r8,rest,rfl⟩:=len9 (l:=cs) (by omega);have hC:=hraw _ _ hst;have k:=λi r c hr hc=>h i r c hr (by simpa[IV.cells] using hc);obtain rfl:=yKw (k 0 _ _ rfl rfl);obtain rfl:=yKw (k 1 _ _ rfl rfl);obtain rfl:=yKw (k 2 _ _ rfl rfl);obtain rfl:=yKw (k 3 _ _ rfl rfl);obtain⟨v4,rfl⟩:=xJs (hC r4 (by simp)) (k 4 _ _ rfl rfl);obtain⟨v5,rfl⟩:=xJs (hC r5 (by simp)) (k 5 _ _ rfl rfl);obtain rfl:=yKw (k 6 _ _ rfl rfl);obtain rfl:=yKw (k 7 _ _ rfl rfl);obtain⟨v8,rfl⟩:=xJs (hC r8 (by simp)) (k 8 _ _ rfl rfl);refine⟨g,cap,v4,v5,v8,rest,rfl,hcap,he.symm,hc1,?_,hst,k 4 _ _ rfl rfl,k 5 _ _ rfl rfl,k 8 _ _ rfl rfl⟩;simpa using hroom
theorem wX9 {N:ISt}{g cap:Nat}{ts:Tag}{b c:Bool}{w w' o:Int}{n:ByteArray}{t t' tt:Tag}{xs ys zs rest:List IV}{v4 v5 v8:Value}(h1:ts.cap=.app g)(h2:ts.es=9)(h3:1<=cap)(h4:cap*9<=rest.length+9)
  (h5:N g=some (.box (.raw (.bool b)::.raw (.int .i64 w)::.raw (.int .u8 o)::.raw (.string n)::.raw v4::.raw v5::.raw (.bool c)::.raw (.int .i64 w')::.raw v8::rest))) (h6:OI N (.raw v4) (.sl t xs)) (h7:OI N (.raw v5) (.sl t' ys)) (h8:OI N (.raw v8) (.sl tt zs)) :
  OI N (.raw (.slice (some ⟨g,0,none⟩) 1 cap)) (.sl ts [.agg [.raw (.bool b),.raw (.int .i64 w),.raw (.int .u8 o),.raw (.string n),.sl t xs,.sl t' ys,.raw (.bool c),.raw (.int .i64 w'),.sl tt zs]]):=by
 refine .sl g cap ts [_] _ h1 (by simp) h3 (λx hx=>by rw[List.mem_singleton.1 hx];exact h2.symm) h5 (by rw[h2];simpa using h4) ?_;simp only[List.flatMap_cons,List.flatMap_nil,List.append_nil,IV.cells];exact wUb (.refl _) (.refl _) (.refl _) (.refl _) h6 h7 (.refl _) (.refl _) h8
theorem wGr {N:ISt}{v:Value}{t:Tag}{xs:List IV}(h:OI N (.raw v) (.sl t xs)):(IV.raw v).one=true:=by
 cases h<;>rfl
theorem vZn {N:ISt}{y z:IV}(hraw:xGs N)(hz:IsNd (n1 false) z)(ho:OI N y z)(hy:rawY y) :
  ∃o n v4 v5 g1 c1 o2 m2 w4 w5 q1 g2 c2 o3 m3 u4 u5 u8 q2,y=.agg [.raw (.bool false),.raw (.int .i64 0),.raw (.int .u8 o),.raw (.string n),.raw v4,.raw v5,.raw (.bool false),.raw (.int .i64 0),.raw (.slice (some ⟨g1,0,none⟩) 1 c1)]/\(IV.raw v4).one=true/\(IV.raw v5).one=true/\1<=c1/\1<=c2 /\
   N g1=some (.box (.raw (.bool false)::.raw (.int .i64 0)::.raw (.int .u8 o2)::.raw (.string m2)::.raw w4::.raw w5::.raw (.bool false)::.raw (.int .i64 0)::.raw (.slice (some ⟨g2,0,none⟩) 1 c2)::q1)) /\
   N g2=some (.box (.raw (.bool false)::.raw (.int .i64 0)::.raw (.int .u8 o3)::.raw (.string m3)::.raw u4::.raw u5::.raw (.bool true)::.raw (.int .i64 0)::.raw u8::q2)) /\
   ∃z',IsNd (n1 true) z'/\OI (N.put g2 (some (.box (.raw (.bool true)::.raw (.int .i64 0)::.raw (.int .u8 o3)::.raw (.string m3)::.raw u4::.raw u5::.raw (.bool true)::.raw (.int .i64 0)::.raw u8::q2)))) y z':=by
 obtain⟨o,n,t,xs,t',ys,ts,zs,rfl,hf,e1,hzs⟩:=IsNd.mk hz;obtain⟨z2,_,rfl,hz2,hnil⟩:=(show ∃y ys,zs=y::ys/\IsNd (n2 false) y/\IsNds [] ys by simpa only[IsNds] using hzs)
 obtain rfl:_=[]:=hnil;obtain⟨o2,m2,t2,xs2,t2',ys2,ts2,zs2,hz2e,hf2,e2,hzs2⟩:=IsNd.mk hz2;obtain⟨z3,_,rfl,hz3,hnil⟩:=(show ∃y ys,zs2=y::ys/\IsNd (n3 false) y/\IsNds [] ys by simpa only[IsNds] using hzs2)
 obtain rfl:_=[]:=hnil;obtain⟨o3,m3,t3,xs3,t3',ys3,ts3,zs3,hz3e,hf3,e3,hzs3⟩:=IsNd.mk hz3;have hxs:xs=[]/\IsFms [xmP,xmN] ys:=by
  obtain⟨_,_,_,_,he,_,_,i1,_,i2⟩:=IsFm.mk hf;cases he;exact⟨i1,i2⟩
 have hxs2:xs2=[]/\IsFms [xmP] ys2:=by
  obtain⟨_,_,_,_,he,_,_,i1,_,i2⟩:=IsFm.mk hf2;cases he;exact⟨i1,i2⟩
 have hxs3:xs3=[]/\IsFms [] ys3:=by
  obtain⟨_,_,_,_,he,_,_,i1,_,i2⟩:=IsFm.mk hf3;cases he;exact⟨i1,i2⟩
 obtain⟨rfl,hys⟩:=hxs;obtain⟨rfl,hys2⟩:=hxs2;obtain⟨rfl,hys3⟩:=hxs3;cases ho with
 | refl =>
  simp only[rawY,xQu] at hy;exact absurd hy (by simp)
 | agg rs _ hl h =>
 obtain⟨r0,r1,r2,r3,r4,r5,r6,r7,r8,rest,rfl⟩:=len9 (l:=rs) (by rw[hl];simp);obtain rfl:rest=[]:=by simpa using hl
 simp only[rawY,xQu] at hy;obtain⟨_,_,_,_,y4,y5,_,_,y8,_⟩:=hy;obtain rfl:=yKw (h 0 _ _ rfl rfl);obtain rfl:=yKw (h 1 _ _ rfl rfl);obtain rfl:=yKw (h 2 _ _ rfl rfl);obtain rfl:=yKw (h 3 _ _ rfl rfl);obtain rfl:=yKw (h 6 _ _ rfl rfl);obtain rfl:=yKw (h 7 _ _ rfl rfl);have hrY:∀ {r:IV} {t:Tag} {xs:List IV},rawY r->OI N r (.sl t xs)->∃v,r=.raw v:=λ{r t xs} hr h=>by
  cases h with
  | refl=>simp only[rawY] at hr
  | nil=>exact⟨_,rfl⟩
  | sl=>exact⟨_,rfl⟩
 have h4:=h 4 _ _ rfl rfl;have h5:=h 5 _ _ rfl rfl;have h8:=h 8 _ _ rfl rfl;obtain⟨v4,rfl⟩:=hrY y4 h4;obtain⟨v5,rfl⟩:=hrY y5 h5;obtain⟨v8,rfl⟩:=hrY y8 h8;obtain⟨g1,c1,w4,w5,w8,q1,rfl,ht1,he1,hc1,hr1,hN1,k4,k5,k8⟩:=wX7 hraw h8 hz2e;obtain⟨g2,c2,u4,u5,u8,q2,rfl,ht2,he2,hc2,hr2,hN2,l4,l5,l8⟩:=wX7 hraw k8 hz3e;have hg:g1≠g2:=λhg=>by
  rw[hg,hN2] at hN1;cases hN1
 have hlen:(.raw (.bool true)::.raw (.int .i64 0)::.raw (.int .u8 o3)::.raw (.string m3)::.raw u4::.raw u5::.raw (.bool true)::.raw (.int .i64 0)::.raw u8::q2:List IV).length=(.raw (.bool false)::.raw (.int .i64 0)::.raw (.int .u8 o3)::.raw (.string m3)::.raw u4::.raw u5::.raw (.bool true)::.raw (.int .i64 0)::.raw u8::q2:List IV).length:=by simp only[List.length_cons]
 have hb:∃b,(.raw (.bool false)::.raw (.int .i64 0)::.raw (.int .u8 o3)::.raw (.string m3)::.raw u4::.raw u5::.raw (.bool true)::.raw (.int .i64 0)::.raw u8::q2:List IV)[0]?=some (.raw (.bool b)):=⟨false,rfl⟩
 have hes:zs3=[]:=by simpa only[IsNds] using hzs3
 subst hes;refine⟨o,n,v4,v5,g1,c1,o2,m2,w4,w5,q1,g2,c2,o3,m3,u4,u5,u8,q2,rfl,wGr h4,wGr h5,hc1,hc2,hN1,hN2,.agg [.raw (.bool false),.raw (.int .i64 0),.raw (.int .u8 o),.raw (.string n),.sl t [],.sl t' ys,.raw (.bool false),.raw (.int .i64 0),
  .sl ts [.agg [.raw (.bool false),.raw (.int .i64 0),.raw (.int .u8 o2),.raw (.string m2),.sl t2 [],.sl t2' ys2,.raw (.bool false),.raw (.int .i64 0),.sl ts2 [.agg [.raw (.bool true),.raw (.int .i64 0),.raw (.int .u8 o3),.raw (.string m3),.sl t3 [],.sl t3' ys3,.raw (.bool true),.raw (.int .i64 0),.sl ts3 []]]]]],?_,?_⟩
 ·simp only[n1,n2,n3,IsNd,IsNds];exact⟨_,_,_,_,_,_,_,_,rfl,hf,e1,_,_,rfl,⟨_,_,_,_,_,_,_,_,rfl,hf2,e2,_,_,rfl,⟨_,_,_,_,_,_,_,_,rfl,hf3,e3,rfl⟩,rfl⟩,rfl⟩
 ·refine .agg _ _ rfl (wUb (rest:=[]) (.refl _) (.refl _) (.refl _) (.refl _) (zY8 hN2 hlen h4) (zJ7 hN2 hb hlen _ _ (Nat.lt_succ_self _) rfl _ _ _ hys h5) (.refl _) (.refl _) ?_);refine wX9 ht1 he1 hc1 hr1 (by rw[yQb hg];exact hN1) (zY8 hN2 hlen k4) (zJ7 hN2 hb hlen _ _ (Nat.lt_succ_self _) rfl _ _ _ hys2 k5) ?_;exact wX9 ht2 he2 hc2 hr2 (ISt.put_same ..) (zY8 hN2 hlen l4) (zJ7 hN2 hb hlen _ _ (Nat.lt_succ_self _) rfl _ _ _ hys3 l5) (zY8 hN2 hlen l8)
def wW5 (t:Tr):Prop:=∀(x y:IV) (_:IsTr t x) (_:IsTr t y) (_:t.steps<=1099511627776) (st:ISt),ICall prog gl 36 [x,y] st (λr st'=>r=.raw (.bool true)/\st'=st)
theorem wZm (rule:Nat)(s:Sq)(f:Fm)(u:Tm)(n:ByteArray)(sub:List Tr)(IH:∀a∈sub,wW5 gl a):wW5 gl (.mk rule s f u n sub):=by
 intro x y hx hy hst st;obtain⟨tl,xl,tr,xr,op,fn,ta,xa,tb,xb,v,un,tu,xu,ts,xs,rfl,hru,e1,i1,e2,i2,hyf,hz,e3,i3⟩:=hx.mk;obtain⟨tl2,xl2,tr2,xr2,op2,fn2,ta2,xa2,tb2,xb2,v2,un2,tu2,xu2,ts2,xs2,rfl,hru2,e12,i12,e22,i22,hyf2,hz2,e32,i32⟩:=hy.mk;simp only[Tr.steps] at hst;have hlsub:=yXa sub;have h1:=λst=>xUe gl s s (.agg [.sl tl xl,.sl tr xr]) (.agg [.sl tl2 xl2,.sl tr2 xr2]) ⟨_,_,_,_,rfl,e1,i1,e2,i2⟩ ⟨_,_,_,_,rfl,e12,i12,e22,i22⟩ st;have h2:=λst=>yUq gl f f _ _ hyf hyf2 st;have h3:=λst=>xK8 gl u u _ _ hz hz2 st;have hs1:eqB s s=true:=yZa.2 rfl;have hs2:eqB f f=true:=yZa.2 rfl;have hs3:eqB u u=true:=yZa.2 rfl;refine iI func36 ?_;simp only[go_sem,zE,zB,zA,zM,zS,zL,reduceCtorEq,fits,decide_true];refine (h1 _).mono ?_;rintro _ st ⟨rfl,rfl⟩;simp only[go_sem,zE,zB,zA,zM,zS,zL,reduceCtorEq,fits,hs1];refine (h2 _).mono ?_;rintro _ st ⟨rfl,rfl⟩;simp only[go_sem,zE,zB,zA,zM,zS,zL,reduceCtorEq,fits,hs2];refine (h3 _).mono ?_;rintro _ st ⟨rfl,rfl⟩;simp only[go_sem,zE,zB,zA,zM,zS,zL,reduceCtorEq,fits,hs3,decide_true,i3.len,i32.len];intros;refine LoopC.ctr sub.length (λk fr st' ds=>fr 2=.box [.raw (.int .u8 rule),.sl tl xl,.sl tr xr,.raw (.int .u8 op),.raw (.string fn),.sl ta xa,.sl tb xb,.raw (.bool v),.raw (.string un),.sl tu xu,.raw (.string n),.sl ts xs] /\
  fr 3=.box [.raw (.int .u8 rule),.sl tl2 xl2,.sl tr2 xr2,.raw (.int .u8 op2),.raw (.string fn2),.sl ta2 xa2,.sl tb2 xb2,.raw (.bool v2),.raw (.string un2),.sl tu2 xu2,.raw (.string n),.sl ts2 xs2]/\fr 5=.iv (.raw (.int .i64 k))/\st'=st/\ds=[]) ?_ ?_ ?_
 ·simp only[go_sem,zE,zB,zA,zM,zS,zL,reduceCtorEq];rfl
 ·rintro k fr st1 _ hlt ⟨f2,f3,f5,rfl,rfl⟩;obtain⟨a,ha⟩:=yQ4 hlt;have ham:=lMg ha;obtain⟨z,hkz,hzz⟩:=i3.get ha;obtain⟨z2,hkz2,hzz2⟩:=i32.get ha;have hcall:=λst=>IH a ham z z2 hzz hzz2 (by have:=yVa ham;omega) st;obtain⟨rule',tl',xl',tr',xr',op',fn',ta',xa',tb',xb',v',un',tu',xu',n',ts',xs',rfl⟩:=yJk hzz;obtain⟨rule',tl',xl',tr',xr',op',fn',ta',xa',tb',xb',v',un',tu',xu',n',ts',xs',rfl⟩:=yJk hzz2;simp only[go_sem,zE,zB,zA,zM,zS,zL,reduceCtorEq,f2,f3,f5,i3.len,i32.len,lt_i hlt,yQ3 e3,yQ3 e32,iNn,hkz,hkz2,fits];intros;refine (hcall _).mono ?_;rintro _ st2 ⟨rfl,rfl⟩;simp only[go_sem,zE,zB,zA,zM,zS,zL,reduceCtorEq,f2,f3,f5,fits,yQf hlt (show sub.length<=281474976710656 by omega)]
 ·rintro fr st1 _ ⟨f2,f3,f5,rfl,rfl⟩;simp only[go_sem,zE,zB,zA,zM,zS,zL,reduceCtorEq,f2,f3,f5,i3.len,yQo (nLi _)];intros;exact yQ0 ⟨rfl,rfl⟩
theorem xVx:∀(k:Nat)(t:Tr),SizeOf.sizeOf t<k->wW5 gl t
 | 0,t,h=>by omega
 | k+1,.mk r sq f u n sub,h=>wZm gl r sq f u n sub (λa ha=>xVx k a (by
   have:=lSm ha;simp at h;omega))
theorem yU0 (t:Tr):wW5 gl t:=xVx gl _ t (Nat.lt_succ_self _)
def trZ:List IV:=[.raw (.int .u8 0),.sl ⟨true,.nil,0⟩ [],.sl ⟨true,.nil,0⟩ [],.raw (.int .u8 0),.raw (.string ⟨#[]⟩),.sl ⟨true,.nil,0⟩ [],.sl ⟨true,.nil,0⟩ [],.raw (.bool false),.raw (.string ⟨#[]⟩),.sl ⟨true,.nil,0⟩ [],.raw (.string ⟨#[]⟩),.sl ⟨true,.nil,0⟩ []]
def tr0:Tr:=.mk 0 ⟨[],[]⟩ fm0 tm0 bE []
theorem wQu:IsTr tr0 (.agg trZ):=by
 simp only[tr0,IsTr,trZ];exact⟨_,_,_,_,_,_,_,_,_,_,_,_,_,_,_,_,rfl,by decide,.inl rfl,rfl,.inl rfl,rfl,vZm,⟨_,_,rfl,.inl rfl,rfl⟩,.inl rfl,rfl⟩
theorem wWa (l:List Mk)(m:Mk)(c:Bool):yU1 l m c<256:=by
 unfold yU1 yVg
 repeat' split
 all_goals decide
theorem vKc:dfr (.agg trZ):=by
 simp only[trZ,dfr,dfrs,appT,and_true,true_and,true_or,List.flatMap_nil,List.not_mem_nil,false_imp_iff,implies_true];intro c hc;simp only[List.mem_cons,List.not_mem_nil,or_false] at hc;rcases hc with rfl|rfl|rfl|rfl|rfl|rfl|rfl|rfl|rfl|rfl|rfl|rfl<;>rfl
def vYz (rule:Nat)(s:Sq)(f:Fm)(pre:List IV):Prop:=(∀(ts:List Tr) (tS:Tag) (xS:List IV),okEs tS 12->IsTrs ts xS->IsTr (.mk rule s f tm0 bE ts) (.agg (pre++[.sl tS xS])))/\dfrs pre/\∀c∈pre,c.one=true
theorem vKz {rule:Nat}{s:Sq}{f:Fm}{tL tR t t':Tag}{xL xR xs ys:List IV}{o:Int}{n:ByteArray}(hr:rule<256)(e1:okEs tL 4)(a1:appT s.l.length tL)(i1:IsFmsD s.l xL)(e2:okEs tR 4)(a2:appT s.r.length tR)(i2:IsFmsD s.r xR)
  (hf:IsFmD f (.agg [.raw (.int .u8 o),.raw (.string n),.sl t xs,.sl t' ys])):vYz rule s f [.raw (.int .u8 rule),.sl tL xL,.sl tR xR,.raw (.int .u8 o),.raw (.string n),.sl t xs,.sl t' ys,.raw (.bool false),.raw (.string ⟨#[]⟩),.sl ⟨true,.nil,0⟩ [],.raw (.string ⟨#[]⟩)]:=by
 have h1:=wGh a1 i1;have h2:=wGh a2 i2;have h3:dfr (.sl ⟨true,.nil,0⟩ []):=by simp[dfr,dfrs,appT]
 have h4:=hf.2;rw[dfr] at h4;refine⟨λts tS xS eS iS=>?_,?_,λc hc=>?_⟩
 ·simp only[IsTr];exact⟨_,_,_,_,_,_,_,_,_,_,_,_,_,_,_,_,rfl,hr,e1,i1.1,e2,i2.1,hf.1,⟨_,_,rfl,.inl rfl,rfl⟩,eS,iS⟩
 ·obtain⟨_,_,h5,h6,_⟩:=h4.1;exact⟨trivial,h1,h2,trivial,trivial,h5,h6,trivial,trivial,h3,trivial,trivial⟩
 ·simp only[List.mem_cons,List.not_mem_nil,or_false] at hc;rcases hc with rfl|rfl|rfl|rfl|rfl|rfl|rfl|rfl|rfl|rfl|rfl<;>rfl
theorem wUj (c0 rb:Nat)(many:Bool)(l:List Mk)(t:Tag)(xs:List IV)(ht:okEs t 6)(hxs:IsMks l xs)(m:Mk)(c:Bool)(w:Int)(sub:List Nd)(z:IV)(hz:IsNd (.mk m c w sub) z)(hc:c=false->m.f.op<=7/\(yZx m).1≠0)(hl:l.length<=100000)
  (hs1:yQ9 (yZd true l)<=1000000) (hs2:yQ9 (yZd false l)<=1000000) (hs3:m.f.size<=1000000) (g k:Nat) (st:ISt) (es:List (Value×IV))
  (h0:st c0=some (.box (wrI rb many))) (hb:st rb=some (.map .sg es)) (hok:wV8 es) :
  ICall prog gl 46 [ptrI c0,z,.sl t xs,.raw (.slice (some ⟨g,0,none⟩) k k)] st (λr st'=>∃many',many'=(many || decide (64<(yZd true l).length) || decide (64<(yZd false l).length))/\(many'=true->r=.agg trZ) /\
   (many'=false->∃tL xL tR xR o n t xs t' ys,r=.agg [.raw (.int .u8 (yU1 l m c)),.sl tL xL,.sl tR xR,.raw (.int .u8 o),.raw (.string n),.sl t xs,.sl t' ys,.raw (.bool false),.raw (.string ⟨#[]⟩),.sl ⟨true,.nil,0⟩ [],.raw (.string ⟨#[]⟩),.raw (.slice (some ⟨g,0,none⟩) k k)] /\
    vYz (yU1 l m c) (sqT l) m.f [.raw (.int .u8 (yU1 l m c)),.sl tL xL,.sl tR xR,.raw (.int .u8 o),.raw (.string n),.sl t xs,.sl t' ys,.raw (.bool false),.raw (.string ⟨#[]⟩),.sl ⟨true,.nil,0⟩ [],.raw (.string ⟨#[]⟩)])/\st'=st.put c0 (some (.box (wrI rb many')))):=by
 have hz0:=hz;have hside:=λb st=>vKo gl l t xs ht hxs (by omega) b st;obtain⟨o,n,t1,x1,t2,x2,tn,zs,rfl,h1,h2,h3⟩:=hz.mk;have hrule:=wUk gl c0 rb many l t xs ht hxs m c w sub _ hz0 hc st es h0 hb hok;have hcopy:=λst=>zZ7 gl m.f _ h1 (by omega) st;unfold wrI at h0;unfold ptrI at *;refine ICall.intro (c:=cf prog gl [] [(5,[0,1,2,4,6,9,10,11,13,3,5,7,8,12,14,15])]) func46 rfl (by show _<=48;simp) (by kernel_rfl) ?_;simp only[go_sem,zE,zB,zA,zM,zS,zL,reduceCtorEq,fits];refine (hside true _).mono ?_;rintro _ st ⟨tL,xL,rfl,eL,iL,rfl⟩;simp only[go_sem,zE,zB,zA,zM,zS,zL,reduceCtorEq,fits];refine (hside false _).mono ?_;rintro _ st ⟨tR,xR,rfl,eR,iR,rfl⟩;have e1:∀n:Nat,decide ((64:Int)<(n:Int))=decide (64<n):=λn=>decide_eq_decide.2 (by omega);cases many
 ·generalize hbL:decide (64<(yZd true l).length)=bL;cases bL
  ·generalize hbR:decide (64<(yZd false l).length)=bR;cases bR
   ·simp only[go_sem,zE,zB,zA,zM,zS,zL,reduceCtorEq,fits,h0,iL.len,iR.len,e1,hbL,hbR];intro _ _;refine hrule.mono ?_;rintro _ _ ⟨rfl,rfl⟩;simp only[go_sem,zE,zB,zA,zM,zS,zL,reduceCtorEq,fits];refine (zUf gl _ tL xL eL iL hs1 _).mono ?_;rintro _ st ⟨tL',xL',rfl,eL',aL',iL',rfl⟩;simp only[go_sem,zE,zB,zA,zM,zS,zL,reduceCtorEq,fits];refine (zUf gl _ tR xR eR iR hs2 _).mono ?_;rintro _ st ⟨tR',xR',rfl,eR',aR',iR',rfl⟩;simp only[go_sem,zE,zB,zA,zM,zS,zL,reduceCtorEq,fits];refine (hcopy _).mono ?_;rintro _ st ⟨hr,rfl⟩;have hr0:=hr;obtain⟨o7,n7,t7,x7,t8,x8,rfl⟩:=hr.1.agg;simp only[go_sem,zE,zB,zA,zM,zS,zL,reduceCtorEq,fits,IV.one];have hpre:=vKz (s:=sqT l) (wWa l m c) eL' aL' iL' eR' aR' iR' hr0;refine yQ0 ?_;exact⟨false,rfl,(λh=>nomatch h),(λ_=>⟨_,_,_,_,_,_,_,_,_,_,rfl,hpre⟩),(yJe h0).symm⟩
   ·simp only[go_sem,zE,zB,zA,zM,zS,zL,reduceCtorEq,fits,h0,iL.len,iR.len,e1,hbL,hbR];intro _ _;exact yQ0 ⟨true,rfl,(λ_=>rfl),(λh=>nomatch h),rfl⟩
  ·simp only[go_sem,zE,zB,zA,zM,zS,zL,reduceCtorEq,fits,h0,iL.len,iR.len,e1,hbL];intro _;exact yQ0 ⟨true,rfl,(λ_=>rfl),(λh=>nomatch h),rfl⟩
 ·simp only[go_sem,zE,zB,zA,zM,zS,zL,reduceCtorEq,fits,h0];exact yQ0 ⟨true,rfl,(λ_=>rfl),(λh=>nomatch h),rfl⟩
end Go.Proofs.Tryz
namespace Go.Iv
open Go
section
variable {P:Program}{gl:Nat->Option IV}{f:FuncId}{args args':List IV}{st:ISt}
theorem ICall.fixA {K:IV->ISt->Prop}(h:ICall P gl f args st (λy st'=>K y st'\/∃pre g n cap cs es zs S,st g=none/\S g=none/\y=.agg (pre++[.raw (.slice (some ⟨g,0,none⟩) n cap)])/\st'=S.put g (some (.box cs)) /\
   zs.length=n/\n<=140737488355328/\n<=cap/\cap*es<=cs.length/\cs.take (n*es)=zs.flatMap IV.cells/\(∀z∈zs,z.cells.length=es)/\K (.agg (pre++[.sl ⟨true,.app g,es⟩ zs])) S)) :
  ICall P gl f args st K:=by
 intro B X rs hg hst hv;subst hst;refine (h B X rs hg rfl hv).mono ?_;rintro e w' ⟨v,rfl,X',y,rfl,h2,h3,h4,hK|⟨pre,g,n,cap,cs,es,zs,S,h0,hS,rfl,hst',rfl,hn,hcap,hroom,htk,hz,hK⟩⟩
 ·exact⟨v,rfl,X',y,rfl,h2,h3,h4,hK⟩
 have hgn:=wGw h3 h0 (by rw[hst'];exact ISt.put_same ..);have hk:=zGv hS hst';refine⟨v,rfl,X'.lendS _ S,_,rfl,h2.lendS hk,h3.trans (h2.lendS_ext hk),?_,hK⟩;obtain⟨rr,rfl,hr⟩:=V.agg_inv h4;refine .agg rr _ (by have:=hr.1;simpa using this) λi r x h1 h2x=>?_;by_cases hi:i<pre.length
 ·rw[List.getElem?_append_left hi] at h2x;exact (h2.lendS_ext hk).v (hr.2 i r x h1 (by rw[List.getElem?_append_left hi];exact h2x))
 ·have hi2:i=pre.length:=by
   have:=(lGs h2x).1;simp at this;omega
  subst hi2;simp only[Nat.le_refl,List.getElem?_append_right,Nat.sub_self,List.getElem?_cons_zero,Option.some.injEq] at h2x;subst h2x;obtain rfl:=V.raw_inv (hr.2 pre.length r (.raw (.slice (some ⟨g,0,none⟩) zs.length cap)) h1 (by simp));exact wGv h2 hS hst' (Nat.le_trans hg.B hgn) hn hcap hroom htk hz
theorem ICall.lentFix {K:IV->Prop}(hf:zXi st)(hgl:∀g x,gl g=some x->age x=x)(hl:Lents st args args')(h:ICall P gl f (ages args') (yVt st) (λr st'=>st'=yVt st/\dfr r/\K (age r))) :
  ICall P gl f args st (λy st'=>st'=st/\K y) :=
 ICall.fix ((ICall.lentOwn (K:=λr=>K (age r)) hf hgl hl h).mono λy st' ⟨hs,_,x,N,hK,hO,_,_,hN,hd⟩=>⟨x,N,st,⟨hN,hs,λb cs hb=>hd b (by rw[hb];exact Option.some_ne_none _)⟩,hO,rfl,hK⟩)
end
end Go.Iv
namespace Go.Proofs.Tryz
open Go Go.Iv
set_option maxRecDepth 4000
variable (gl:Nat->Option IV)
theorem zJp (l:List Mk):∀ {qs:List (List Mk)} {ns:List Nd} {k:Nat} {q:List Mk} {n:Nd},qs[k]?=some q->ns[k]?=some n →
  yJb l (qs.take (k+1)) (ns.take (k+1))=yJb l (qs.take k) (ns.take k)++[yW1 (yZg l q) n]/\zZy l (qs.take (k+1)) (ns.take (k+1))=(zZy l (qs.take k) (ns.take k) || bigT (yZg l q) n)
 | q::qs,n::ns,0,_,_,h1,h2=>by
  simp only[List.getElem?_cons_zero,Option.some.injEq] at h1 h2;subst h1 h2;simp[yJb,zZy]
 | q::qs,n::ns,k+1,_,_,h1,h2=>by
  obtain⟨e1,e2⟩:=zJp l (qs:=qs) (ns:=ns) (k:=k) (by simpa using h1) (by simpa using h2);simp only[List.take_succ_cons,yJb,zZy,e1,e2,List.cons_append,Bool.or_assoc,and_self]
theorem zVf {l:List Mk}{p:List Nat}:∀ {qs:List (List Mk)} {ns:List Nd} {i k:Nat} {q:List Mk} {n:Nd},(yJ2 l p i qs ns).2=0->qs[k]?=some q->ns[k]?=some n->(yXo (yZg l q) (p++[i+k]) n).2=0
 | q::qs,n::ns,i,0,_,_,h,h1,h2=>by
  simp only[List.getElem?_cons_zero,Option.some.injEq] at h1 h2;subst h1 h2;rw[yJ2] at h;split at h
  ·exact h
  ·rename_i h';simpa using h'
 | q::qs,n::ns,i,k+1,_,_,h,h1,h2=>by
  rw[yJ2] at h;split at h
  ·rename_i h';exact absurd h h'
  ·have:=zVf (k:=k) h (by simpa using h1) (by simpa using h2)
   rwa [show i+1+k=i+(k+1) by omega] at this
theorem zWt {B:Nat}:∀ {l:List Fm},(∀f∈l,f.size<=B)->yQ9 l<=l.length*B
 | [],_=>Nat.zero_le _
 | a::l,h=>by
  have h1:=h a (by simp);have h2:=zWt (l:=l) λf hf=>h f (by simp[hf]);simp only[yQ9,List.length_cons,Nat.add_mul,Nat.one_mul];omega
theorem wW3 (b:Bool)(l:List Mk):(yZd b l).length<=l.length:=by
 rw[yZd,List.length_map];exact List.length_filter_le ..
theorem xQl {l:List Mk}(h:∀m∈l,m.f.size<=300)(hl:l.length<=1000)(b:Bool):yQ9 (yZd b l)<=1000000:=by
 have h1:=zWt (B:=300) (l:=yZd b l) λf hf=>by
  obtain⟨m,hm,_,rfl⟩:=yJf.1 hf;exact h m hm
 have h2:=wW3 b l;have:(yZd b l).length*300<=1000*300:=Nat.mul_le_mul_right _ (by omega);omega
theorem zJn:∀ {l:List Tr}{xs:List IV},IsTrs l xs->∀x∈xs,x.cells.length=12
 | [],xs,h,x,hx=>by simp only[IsTrs] at h;subst h;cases hx
 | a::l,xs,h,x,hx=>by
  simp only[IsTrs] at h;obtain⟨y,ys,rfl,hy,h⟩:=h;rcases List.mem_cons.1 hx with rfl|hx
  ·obtain⟨rule',tl',xl',tr1',xr',op',fn',ta',xa',tb',xb',v',un',tu',xu',n',ts2,xs2,rfl⟩:=yJk hy;rfl
  ·exact zJn h x hx
theorem wQr:∀ {l:List Tr}{xs:List IV}{z:IV},IsTrs l xs->z∈xs->∃t,IsTr t z
 | [],xs,z,h,hx=>by simp only[IsTrs] at h;subst h;cases hx
 | a::l,xs,z,h,hx=>by
  simp only[IsTrs] at h;obtain⟨y,ys,rfl,hy,h⟩:=h;rcases List.mem_cons.1 hx with rfl|hx
  ·exact⟨a,hy⟩
  ·exact wQr h hx
mutual
theorem xXq:∀ {t:Tr}{x:IV},IsTr t x->IsTr t (age x)
 | .mk rule s f u n sub,x,h=>by
  simp only[IsTr] at h;obtain⟨tl,xl,tr,xr,op,fn,ta,xa,tb,xb,v,un,tu,xu,ts,xs,rfl,hr,e1,i1,e2,i2,hf,hu,e3,i3⟩:=h;have hf':=hf.aged;have hu':=hu.aged;simp only[age,ages] at hf' hu' ⊢;simp only[IsTr];exact⟨_,_,_,_,_,_,_,_,_,_,_,_,_,_,_,_,rfl,hr,yJq e1,IsFms.aged i1,yJq e2,IsFms.aged i2,hf',hu',yJq e3,zG7 i3⟩
theorem zG7:∀ {l:List Tr}{xs:List IV},IsTrs l xs->IsTrs l (ages xs)
 | [],xs,h=>by simp only[IsTrs] at h;subst h;rfl
 | a::l,xs,h=>by
  simp only[IsTrs] at h;obtain⟨y,ys,rfl,hy,h⟩:=h;simp only[ages,IsTrs];exact⟨_,_,rfl,xXq hy,zG7 h⟩
end
def wYt (n:Nd):Prop:=∀(z:IV) (_:IsNd n z) (l:List Mk) (p:List Nat) (_:(yXo l p n).2=0) (_:GoodT l) (_:∀m∈l,m.f.size<=300) (_:l.length+2*n.nodes<=1000) (t:Tag) (xs:List IV) (_:okEs t 6) (_:IsMks l xs)
 (st:ISt) (c0 rb:Nat) (many:Bool) (es:List (Value×IV)) (_:st c0=some (.box (wrI rb many))) (_:st rb=some (.map .sg es)) (_:wV8 es),
 ICall prog gl 43 [z,.sl t xs,.fn (.func 45) [ptrI c0] [],.fn (.func 46) [ptrI c0] []] st
  (λr st'=>∃tr many',(IsTr tr r/\dfr r)/\many'=(many || bigT l n)/\(many'=false->tr=yW1 l n)/\st'=st.put c0 (some (.box (wrI rb many'))))
theorem xG4 (m:Mk)(c:Bool)(w:Int)(sub:List Nd)(IH:∀a∈sub,wYt gl a):wYt gl (.mk m c w sub):=by
 intro z hz l p hck hgood hsz hlen t xs ht hxs st c0 rb many es h0 hb hok;have hz0:=hz;have hln:=yWh sub;simp only[Nd.nodes] at hlen;have hcr:c0≠rb:=λh=>by rw[h,hb] at h0;cases h0
 have hck0:=hck;rw[yXo] at hck;have hw0:yUw l m c w sub.length=0:=by
  split at hck
  ·rename_i h;exact absurd hck h
  ·rename_i h;simpa using h
 rw[if_neg (by rw[hw0];decide)] at hck;obtain⟨hml,hcl,hfi,rfl,hsl⟩:=yWv hw0;obtain⟨hmf,hmw⟩:=hgood m hml;have hop:m.f.op<=7:=by
  have h4:=(yJz.1 hmf).2.2.2;obtain⟨mi,mw,⟨o,n,us,sb⟩⟩:=m;simp only[opsB,bAt,dTe] at h4;show o<=7;simpa using h4.1.1.2
 obtain⟨v1,w1,o1,n1,t1,y1,t2,y2,c1,w2,t3,y3,rfl⟩:=yY6 hz;clear hz;refine ICall.fixA ?_;refine ICall.intro (c:=cf prog gl [23] []) func43 rfl (by show _<=48;simp) (by kernel_rfl) ?_;simp only[go_sem,zE,zB,zA,zM,zS,zL,reduceCtorEq,fits];refine (wVi gl _ l t xs ht hxs m c 0 sub _ hz0 (λhc=>⟨hop,hfi hc,by rw[hsl,hc];rfl⟩) (λhc=>List.length_eq_zero_iff.1 (by rw[hsl,hc];rfl)) (by have:=hsz m hml;omega) (by omega) _).mono ?_;rintro _ st ⟨ts,zs,tq,qs,rfl,e3,i3,eq,iq,rfl⟩;have hzl:=i3.len;have hqn:(xXc l m c).length=sub.length:=by
  unfold xXc;rw[hsl];cases c<;>simp
 simp only[go_sem,zE,zB,zA,zM,zS,zL,reduceCtorEq,fits];intro _;refine yQm ⟨by omega,by omega,by omega⟩ λg=>yQc λhg=>?_;have hgc:g≠c0:=λh=>by rw[h,h0] at hg;cases hg
 have hgr:g≠rb:=λh=>by rw[h,hb] at hg;cases hg
 intro _;refine LoopC.ctr sub.length (λk fr st' ds=>(∃cs zt tt mk,st'=(st.put c0 (some (.box (wrI rb mk)))).put g (some (.box cs))/\cs.length=sub.length*12/\cs.take (k*12)=zt.flatMap IV.cells/\IsTrs tt zt/\dfrs zt/\zt.length=k /\
   mk=(many || zZy l ((yQs m 0).take k) (sub.take k))/\(mk=false->tt=yJb l ((yQs m 0).take k) (sub.take k))) /\
  fr 1=.iv (.sl t xs)/\fr 2=.iv (.fn (.func 45) [ptrI c0] [])/\fr 3=.iv (.fn (.func 46) [ptrI c0] [])/\fr 4=.box [.raw (.bool v1),.raw (.int .i64 w1),.raw (.int .u8 o1),.raw (.string n1),.sl t1 y1,.sl t2 y2,.raw (.bool c1),.raw (.int .i64 w2),.sl t3 y3]/\fr 8=.box trZ /\
  fr 10=.iv (.sl tq qs)/\fr 11=.iv (.raw (.slice (some ⟨g,0,none⟩) sub.length sub.length))/\fr 24=.iv (.sl ts zs)/\fr 25=.iv (.raw (.int .i64 sub.length))/\fr 26=.iv (.raw (.int .i64 k))/\ds=[]) ?_ ?_ ?_
 ·simp only[go_sem,zE,zB,zA,zM,zS,zL,reduceCtorEq,hzl];exact⟨⟨_,[],[],many,by rw[yJe h0],by simp,rfl,rfl,trivial,rfl,by simp[zZy],λ_=>rfl⟩,rfl,rfl⟩
 ·rintro k fr _ _ hlt ⟨⟨cs,zt,tt,mk,rfl,hcs,hct,hzt,hzd,hztl,hmk,hmt⟩,f1,f2,f3,f4,f8,f10,f11,f24,f25,f26,rfl⟩;obtain⟨a,ha⟩:=yQ4 hlt;obtain⟨z,hkz,hz⟩:=i3.get ha;have ham:=lMg ha;have hsta:=yJr ham;have hcf:c=false:=by
   cases hq:c
   ·rfl
   ·rw[if_pos hq] at hsl;omega
  subst hcf;obtain⟨q,hq⟩:=yQ4 (show k<(yQs m 0).length by rw[if_neg (by decide)] at hsl;omega);have hbq:(xXc l m false)[k]?=some (yZg l q):=by simp[xXc,hq]
  obtain⟨tk,zk,hkq,etk,izk⟩:=iq.get hbq;have hqm:=lMg hq;have hq2:=yG2 m 0 q hqm;have hal:=yXc q l;simp only[bFt,if_false] at hck;have hg':GoodT (yZg l q):=hgood.adds λx hx=>by
   obtain⟨h1,h2⟩:=(zQy hmf (hfi rfl) 0).2.2.1 q hqm x hx;exact⟨h1,h2.trans hmw⟩
  have hs':∀x∈yZg l q,x.f.size<=300:=λx hx=>(yWe.1 hx).elim (hsz x) λh=>Nat.le_trans (zKm hmf (hfi rfl) 0 q hqm x h) (hsz m hml);have hcall:=λst1 h0 hb=>IH a ham z hz (yZg l q) _ (zVf hck hq ha) hg' hs' (by omega) tk zk etk izk st1 c0 rb mk es h0 hb hok;obtain⟨v3,w3,o3,n3,t4,y4,t5,y5,c5,w5,t6,y6,rfl⟩:=yY6 hz;simp only[go_sem,zE,zB,zA,zM,zS,zL,reduceCtorEq,f1,f2,f3,f4,f8,f10,f11,f24,f25,f26,lt_i hlt,yQ3 e3,yQ3 eq,iNn,hkz,hkq,fits];refine (hcall _ (by rw[yQb hgc.symm,ISt.put_same]) (by rw[yQb hgr.symm,yQb hcr.symm];exact hb)).mono ?_;rintro r _ ⟨tr,mk',⟨htr,htd⟩,hmk',htr',rfl⟩;have htr0:=htr;obtain⟨rule',tl',xl',tr1',xr',op',fn',ta',xa',tb',xb',v',un',tu',xu',n',ts2,xs2,rfl⟩:=yJk htr;simp only[go_sem,zE,zB,zA,zM,zS,zL,reduceCtorEq,f1,f2,f3,f4,f8,f10,f11,f24,f25,f26,fits,ISt.put_same,yQ8,yQb hgc,yQf hlt (show sub.length<=281474976710656 by omega)];obtain⟨q1,q2⟩:=yUj (k:=k) (n:=sub.length) (s:=12) (new:=[.raw (.int .u8 rule'),.sl tl' xl',.sl tr1' xr',.raw (.int .u8 op'),.raw (.string fn'),.sl ta' xa',.sl tb' xb',.raw (.bool v'),.raw (.string un'),.sl tu' xu',.raw (.string n'),.sl ts2 xs2]) hcs hlt rfl;obtain⟨e5,e6⟩:=zJp l hq ha;rw[if_pos ⟨by omega,hlt⟩,if_pos (by omega),zXw hgc,yQ8,yQ8];refine⟨_,zt++[.agg [.raw (.int .u8 rule'),.sl tl' xl',.sl tr1' xr',.raw (.int .u8 op'),.raw (.string fn'),.sl ta' xa',.sl tb' xb',.raw (.bool v'),.raw (.string un'),.sl tu' xu',.raw (.string n'),.sl ts2 xs2]],tt++[tr],mk',rfl,q1,?_,hzt.append ⟨_,_,rfl,htr0,rfl⟩,yKc hzd ⟨htd,trivial⟩,by simp[hztl],?_,λh=>?_⟩
  ·rw[q2,hct,List.flatMap_append,List.flatMap_singleton];rfl
  ·rw[hmk',hmk,e6,Bool.or_assoc]
  ·rw[hmk'] at h;rw[e5,hmt (by simpa using (Bool.or_eq_false_iff.1 h).1),htr' (by rw[hmk'];exact h)]
 ·rintro fr _ _ ⟨⟨cs,zt,tt,mk,rfl,hcs,hct,hzt,hzd,hztl,hmk,hmt⟩,f1,f2,f3,f4,f8,f10,f11,f24,f25,f26,rfl⟩;simp only[go_sem,zE,zB,zA,zM,zS,zL,reduceCtorEq,f1,f2,f3,f4,f8,f10,f11,f24,f25,f26,yQo (nLi _)];refine (wUj gl c0 rb mk l t xs ht hxs m c 0 sub _ hz0 (λhc=>⟨hop,hfi hc⟩) (by omega) (xQl hsz (by omega) true) (xQl hsz (by omega) false) (by have:=hsz m hml;omega) g sub.length _ es (by rw[yQb hgc.symm,ISt.put_same]) (by rw[yQb hgr.symm,yQb hcr.symm];exact hb) hok).mono ?_;rintro r _ ⟨mk',hmk',hT,hF,rfl⟩;have hX:zZy l ((yQs m 0).take sub.length) (sub.take sub.length)=(!c&&zZy l (yQs m 0) sub)/\yJb l ((yQs m 0).take sub.length) (sub.take sub.length)=if c then [] else yJb l (yQs m 0) sub:=by
   rw[lTl];cases c
   ·simp only[bFt,if_false] at hsl;rw[List.take_of_length_le (by omega)];exact⟨rfl,rfl⟩
   ·obtain rfl:=List.length_eq_zero_iff.1 (hsl.trans rfl);exact⟨rfl,rfl⟩
  rw[hX.1] at hmk;rw[hX.2] at hmt;have hbig:mk'=(many || bigT l (.mk m c 0 sub)):=by
   rw[hmk',hmk,bigT];cases many<;>cases decide (64<(yZd true l).length)<;>cases decide (64<(yZd false l).length)<;>cases (!c&&zZy l (yQs m 0) sub)<;>rfl
  rw[zXw hgc,yQ8];have hSg:(st.put c0 (some (.box (wrI rb mk')))) g=none:=by rw[yQb hgc];exact hg
  cases mk'
  ·obtain⟨tL,xL,tR,xR,o,n,t3,x3,t4,x4,rfl,hpre⟩:=hF rfl;have hmkf:mk=false:=(Bool.or_eq_false_iff.1 (Bool.or_eq_false_iff.1 hmk'.symm).1).1;simp only[go_sem,zE,zB,zA,zM,zS,zL,reduceCtorEq,f8,trZ,fits,IV.one];refine yQ0 (.inr ⟨[_,_,_,_,_,_,_,_,_,_,_],g,_,_,cs,12,zt,_,hg,hSg,rfl,rfl,hztl,by omega,Nat.le_refl _,by omega,hct,zJn hzt,.mk (yU1 l m c) (sqT l) m.f tm0 bE tt,false,⟨hpre.1 _ _ _ (.inr rfl) hzt,?_⟩,hbig,λ_=>?_,rfl⟩)
   ·rw[dfr];refine⟨yKc hpre.2.1 ⟨?_,trivial⟩,λx hx=>?_⟩
    ·rw[dfr];refine⟨.inr ⟨Nat.succ_pos _,rfl,g,rfl⟩,hzd,λx hx=>?_⟩;obtain⟨z,hz,hxz⟩:=List.mem_flatMap.1 hx;obtain⟨tr,htr⟩:=wQr hzt hz;obtain⟨rule',tl',xl',tr1',xr',op',fn',ta',xa',tb',xb',v',un',tu',xu',n',ts2,xs2,rfl⟩:=yJk htr;simp only[IV.cells,List.mem_cons,List.not_mem_nil,or_false] at hxz;rcases hxz with rfl|rfl|rfl|rfl|rfl|rfl|rfl|rfl|rfl|rfl|rfl|rfl<;>rfl
    ·rcases List.mem_append.1 hx with hx|hx
     ·exact hpre.2.2 x hx
     ·rw[List.mem_singleton.1 hx];rfl
   ·rw[yW1,hmt hmkf]
  ·have h:=hT rfl;subst h;have z0:=wQu;have z1:=vKc;unfold trZ at z0 z1;simp only[go_sem,zE,zB,zA,zM,zS,zL,reduceCtorEq,f8,trZ,fits];exact yQa (yQg hSg) (.inl ⟨tr0,true,⟨z0,z1⟩,hbig,(λh=>nomatch h),rfl⟩)
theorem zUw:∀(k:Nat)(n:Nd),SizeOf.sizeOf n<k->wYt gl n
 | 0,_,h=>absurd h (by omega)
 | k+1,.mk m c w sub,h=>xG4 gl m c w sub λa ha=>zUw k a (by have:=lSm ha;simp only[Nd.mk.sizeOf_spec] at h;omega)
theorem wUn (n:Nd):wYt gl n:=zUw gl _ n (Nat.lt_succ_self _)
noncomputable def zWd (s:Sq)(n:Nd):Tr×Nat:=if (yUg s n).2≠0 then (tr0,230) else if bigT (yZi s) n=true then (tr0,5) else (yW1 (yZi s) n,0)
theorem vYu (G:Gl gl)(s:Sq)(x:IV)(hx:IsSq s x)(hw:wFms s.l+wFms s.r<=300)(n:Nd)(z:IV)(hz:IsNd n z)(hn:n.nodes<=100)(st:ISt) :
  ICall prog gl 12 [x,z] st (λr st'=>(∃y,r=.tup [y,.raw (.int .i64 (zWd s n).2)]/\IsTr (zWd s n).1 y/\dfr y)/\st'=st):=by
 have hck:=λst=>wVt gl G s x hx (zJ9 hw) n z hz (by omega) st;have hlen:s.l.length+s.r.length<=300:=by
  have h1:=yQw s.l;have h2:=yQw s.r;have h3:=yZt s.l;have h4:=yZt s.r;omega
 have hst:=λst=>vQ9 gl s x hx (by omega) st;have hz0:=hz;have z0:=wQu;have z1:=vKc;unfold trZ at z0 z1;have hne:∀n:Nat,((n:Int)=0)=(n=0):=λn=>propext (by omega);obtain⟨v1,w1,o1,n1,t1,y1,t2,y2,c1,w2,t3,y3,rfl⟩:=yY6 hz;obtain⟨tl,xl,tr,xr,rfl,e1,i1,e2,i2⟩:=hx;refine ICall.intro (c:=cf prog gl [21] [(5,[0,1,3,4,5,6,8,2,7,9])]) func12 rfl (by show _<=36;simp) (by kernel_rfl) ?_;simp only[go_sem,zE,zB,zA,zM,zS,zL,reduceCtorEq,fits];refine (hck _).mono ?_;rintro _ st ⟨⟨tg,rfl,htg⟩,rfl⟩;by_cases h0:(yUg s n).2=0
 ·simp only[go_sem,zE,zB,zA,zM,zS,zL,reduceCtorEq,fits,h0,decide_true,Bool.not_true,Int.natCast_zero];refine (xVq gl _).mono ?_;rintro _ _ ⟨rb,es,hrb,rfl,hok,rfl⟩;simp only[go_sem,zE,zB,zA,zM,zS,zL,reduceCtorEq,fits];refine λc=>yQc λhc=>?_;have hcb:c≠rb:=λh=>by rw[h,ISt.put_same] at hc;cases hc
  have hc0:st c=none:=by rw[yQb hcb] at hc;exact hc
  have hC:yKu s=true/\(yXo (yZi s) [] n).2=0:=by
   unfold yUg at h0;split at h0
   ·cases h0
   split at h0
   ·cases h0
   ·rename_i h _;exact⟨by simpa using h,h0⟩
  refine (hst _).mono ?_;rintro _ _ ⟨t',ys,rfl,htt,hys,rfl⟩;simp only[go_sem,zE,zB,zA,zM,zS,zL,reduceCtorEq,fits];refine (wUn gl n _ hz0 (yZi s) [] hC.2 (yWl hC.1) (λm hm=>?_) ?_ t' ys htt hys _ c rb false es (ISt.put_same ..) (by rw[yQb hcb.symm,ISt.put_same]) hok).mono ?_
  ·have h1:=yZt s.l;have h2:=yZt s.r;rcases (yVk.1 hm).2 with h|h
   ·have:=yXh h.2;omega
   ·have:=yXh h.2;omega
  ·have:=yXc (yVl s) [];have h3:(yVl s).length=s.l.length+s.r.length:=by simp[yVl]
   unfold yZi;simp only[List.length_nil] at this;omega
  rintro r _ ⟨tr,many',⟨htr,htd⟩,hm,ht,rfl⟩;have htr0:=htr;obtain⟨rule',tl',xl',tr1',xr',op',fn',ta',xa',tb',xb',v',un',tu',xu',n',ts2,xs2,rfl⟩:=yJk htr;rw[Bool.false_or] at hm;simp only[go_sem,zE,zB,zA,zM,zS,zL,reduceCtorEq,fits,ISt.put_same,yQ8,wrI];have hsub:subSt st ((st.put rb (some (.map .sg es))).put c (some (.box [.raw (.map (some rb)),.raw (.bool many')]))):=(yQg hrb).trans (yQg (by rw[yQb hcb];exact hc0));cases hmm:many'
  ·simp only[go_sem,zE,zB,zA,zM,zS,zL,reduceCtorEq,fits];have he:zWd s n=(yW1 (yZi s) n,0):=by rw[zWd,if_neg (by rw[h0];decide),if_neg (by rw[<- hm,hmm];decide)]
   rw[hmm] at hsub;exact yQa hsub ⟨⟨_,by rw[he];rfl,by rw[he,<- ht hmm];exact htr0,htd⟩,rfl⟩
  ·simp only[go_sem,zE,zB,zA,zM,zS,zL,reduceCtorEq,fits];have he:zWd s n=(tr0,5):=by rw[zWd,if_neg (by rw[h0];decide),if_pos (by rw[<- hm,hmm])]
   rw[hmm] at hsub;exact yQa hsub ⟨⟨_,by rw[he];rfl,by rw[he];exact z0,z1⟩,rfl⟩
 ·simp only[go_sem,zE,zB,zA,zM,zS,zL,reduceCtorEq,fits,hne,h0,decide_false,Bool.not_false];have he:zWd s n=(tr0,230):=by rw[zWd,if_pos h0]
  exact yQ0 ⟨⟨_,by rw[he];rfl,by rw[he];exact z0,z1⟩,rfl⟩
