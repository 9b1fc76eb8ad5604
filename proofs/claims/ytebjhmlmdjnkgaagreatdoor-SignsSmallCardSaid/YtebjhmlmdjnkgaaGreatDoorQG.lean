/-  -/
import Derived.Test.YtebjhmlmdjnkgaaGreatDoorQF
set_option linter.all false
open Nat renaming reduceEqDiff → zE,reduceBEq → zB,reduceAdd → zA,reduceMul → zM,reduceSub → zS,reduceLeDiff → zL
namespace Go.Proofs.Tryz
open Go Go.Iv
set_option maxRecDepth 4000
variable (gl:Nat->Option IV)
structure UP where
 d:Nat
 b:Nat
 k:Nat
 n:Nat
 hx:IV
 y:IV
 zs:IV
 S0:ISt
 S1:ISt
 B:IV->List IV
 ok:Nat->Nat->List IV->Prop
 P:Fr->Prop
namespace UP
variable (u:UP)
def new (g cap:Nat):IV:=.raw (.slice (some ⟨g,0,none⟩) (u.n+1) cap)
def sl (g cap:Nat):List (Option (Nat×IV)):=[some (u.d,.raw (.pointer (some ⟨u.b,u.k,none⟩))),some (u.d+1,u.hx),some (u.d+2,u.y),some (u.d+3,.raw (.int .i64 u.n)),some (u.d+4,u.zs),some (u.d+5,u.new g cap),some (u.d+6,.raw (.pointer (some ⟨g,u.n*4,none⟩))),none,
 some (u.d+7,.raw (.pointer (some ⟨u.b,u.k,none⟩))),none]
def st (l7 l9:Bool)(g cap:Nat)(cs:List IV):ISt:=(if l9=true then u.S1.put u.b (some (.box (u.B (u.new g cap)))) else u.S1).put g (some (.box (if l7=true then yX8 cs (u.n*4) u.y.cells else cs)))
def C (listed:Array Bool):Prop:=(listed.getD 5 false=true->∀i,i<5->listed.getD i false=true)/\∀i,5<=i->listed.getD i false=true->listed.getD 5 false=true
def T (listed:Array Bool)(s:ISt)(g cap:Nat)(cs:List IV):Prop:=(listed.getD 5 false=false/\s=u.S0)\/(listed.getD 5 false=true/\u.ok g cap cs/\s=u.st (listed.getD 7 false) (listed.getD 9 false) g cap cs)
def J (listed:Array Bool):Kt:=λad fr s ds=>(∀s,ad s=none)/\ds=[]/\u.P fr/\C listed/\∃g cap cs,SlotsOk (u.sl g cap) listed fr/\u.T listed s g cap cs
variable {u}
theorem xGd {g cap i d:Nat}{z:IV}(h:(u.sl g cap)[i]?=some (some (d,z))):i<10/\u.d<=d/\d<u.d+8:=by
 have hi:i<10:=(lGs h).1;refine⟨hi,?_⟩;rcases (show i=0\/i=1\/i=2\/i=3\/i=4\/i=5\/i=6\/i=7\/i=8\/i=9 by omega) with rfl|rfl|rfl|rfl|rfl|rfl|rfl|rfl|rfl|rfl
 all_goals first|(cases h;done)|(cases h;omega)
theorem nd (d:Nat)(g cap:Nat)(h:u.d=d)(hn:ndO [some d,some (d+1),some (d+2),some (d+3),some (d+4),some (d+5),some (d+6),none,some (d+7),none]=true):ndO ((u.sl g cap).map (·.map (·.1)))=true:=by
 subst h;exact hn
theorem C.set {listed:Array Bool}{i:Nat}(hz:listed.size=10)(hi:i<10)(h:C listed)(h1:5<i->listed.getD 5 false=true)(h2:i=5->∀j,j<5->listed.getD j false=true):C (listed.setIfInBounds i true):=by
 refine⟨λh5 j hj=>?_,λj hj hl=>?_⟩
 ·rw[yQo (by omega)] at h5 ⊢;split
  ·rfl
  ·split at h5
   ·exact h2 ‹_› j hj
   ·exact h.1 h5 j hj
 ·rw[yQo (by omega)] at hl ⊢;split
  ·rfl
  ·split at hl
   ·exact h1 (by omega)
   ·exact h.2 j hj hl
theorem pure {listed:Array Bool}{ad:Ad}{fr:Fr}{s:ISt}{g cap:Nat}{cs:List IV}(hn:∀g cap,ndO ((u.sl g cap).map (·.map (·.1)))=true)(hP:∀fr d z,u.d<=d->d<u.d+8->u.P fr->u.P (fr.put d z))(hz:listed.size=10)(had:∀s,ad s=none)(hF:u.P fr)(hC:C listed)(hsl:SlotsOk (u.sl g cap) listed fr)(hT:u.T listed s g cap cs)
  {i d:Nat} {z:IV} (h579:i≠5/\i≠7/\i≠9) (h5:5<i->listed.getD 5 false=true) (hs:(u.sl g cap)[i]?=some (some (d,z))):u.J (listed.setIfInBounds i true) (ad.put d none) (fr.put d (.iv z)) s []:=by
 have hi:=(xGd hs).1;refine⟨yYl had d,rfl,hP _ _ _ (xGd hs).2.1 (xGd hs).2.2 hF,hC.set hz hi h5 (λh=>absurd h h579.1),g,cap,cs,hsl.step rfl (hn g cap) (by omega) hs (λ_ _ _=>rfl),?_⟩;unfold T at hT ⊢;rw[yQo (by omega),if_neg h579.1,yQo (by omega),if_neg h579.2.1,yQo (by omega),if_neg h579.2.2];exact hT
theorem uZ9 {g cap g' cap' j:Nat}(h5:j≠5)(h6:j≠6):(u.sl g' cap')[j]?=(u.sl g cap)[j]?:=by
 by_cases hj:j<10
 ·rcases (show j=0\/j=1\/j=2\/j=3\/j=4\/j=7\/j=8\/j=9 by omega) with rfl|rfl|rfl|rfl|rfl|rfl|rfl|rfl<;>rfl
 ·rw[List.getElem?_eq_none (by show 10<=j;omega),List.getElem?_eq_none (by show 10<=j;omega)]
theorem app {listed:Array Bool}{ad:Ad}{fr:Fr}{g cap:Nat}(hn:∀g cap,ndO ((u.sl g cap).map (·.map (·.1)))=true)(hP:∀fr d z,u.d<=d->d<u.d+8->u.P fr->u.P (fr.put d z))(hz:listed.size=10)(had:∀s,ad s=none)(hF:u.P fr)(hC:C listed)(hsl:SlotsOk (u.sl g cap) listed fr)
  (hall:∀j,j<5->listed.getD j false=true) (hfl:listed.getD 5 false=false) {g' cap':Nat} {cs':List IV} (hok:u.ok g' cap' cs'):u.J (listed.setIfInBounds 5 true) (ad.put (u.d+5) none) (fr.put (u.d+5) (.iv (u.new g' cap'))) (u.S1.put g' (some (.box cs'))) []:=by
 have off:∀j,5<=j->listed.getD j false=false:=λj hj=>by
  cases hq:listed.getD j false
  ·rfl
  ·rw[hC.2 j hj hq] at hfl;cases hfl
 refine⟨yYl had _,rfl,hP _ _ _ (by omega) (by omega) hF,hC.set hz (by decide) (λh=>absurd h (by decide)) (λ_=>hall),g',cap',cs',hsl.step rfl (hn g' cap') (by omega) rfl (λj hj hl=>uZ9 hj λh6=>by rw[h6,off 6 (by decide)] at hl;cases hl),.inr ⟨by rw[yQo (by omega),if_pos rfl],hok,?_⟩⟩;rw[yQo (by omega),if_neg (by decide),off 7 (by decide),yQo (by omega),if_neg (by decide),off 9 (by decide)];rfl
theorem T.st5 {listed:Array Bool}{s:ISt}{g cap:Nat}{cs:List IV}(h5:listed.getD 5 false=true)(h:u.T listed s g cap cs):u.ok g cap cs/\s=u.st (listed.getD 7 false) (listed.getD 9 false) g cap cs:=by
 rcases h with⟨h,_⟩|⟨_,h⟩
 ·rw[h] at h5;cases h5
 ·exact h
theorem cell {listed:Array Bool}{ad:Ad}{fr:Fr}{s:ISt}{g cap:Nat}{cs:List IV}(hz:listed.size=10)(had:∀s,ad s=none)(hF:u.P fr)(hC:C listed)(hsl:SlotsOk (u.sl g cap) listed fr)(hT:u.T listed s g cap cs)
  (h5:listed.getD 5 false=true) (hfl:listed.getD 7 false=false):s g=some (.box cs)/\u.J (listed.setIfInBounds 7 true) ad fr (s.put g (some (.box (yX8 cs (u.n*4) u.y.cells)))) []:=by
 obtain⟨hok,rfl⟩:=hT.st5 h5;refine⟨by rw[hfl];exact ISt.put_same ..,had,rfl,hF,hC.set hz (by decide) (λ_=>h5) (λh=>absurd h (by decide)),g,cap,cs,hsl.skip (.inl rfl),.inr ⟨by rw[yQo (by omega),if_neg (by decide)];exact h5,hok,?_⟩⟩;rw[yQo (by omega),if_pos rfl,yQo (by omega),if_neg (by decide)];unfold st;rw[yQh];rfl
theorem header {listed:Array Bool}{ad:Ad}{fr:Fr}{s:ISt}{g cap:Nat}{cs:List IV}(hgb:∀g cap cs,u.ok g cap cs->g≠u.b)(hz:listed.size=10)(had:∀s,ad s=none)(hF:u.P fr)(hC:C listed)(hsl:SlotsOk (u.sl g cap) listed fr)(hT:u.T listed s g cap cs)
  (h5:listed.getD 5 false=true) (hfl:listed.getD 9 false=false):s u.b=u.S1 u.b/\u.J (listed.setIfInBounds 9 true) ad fr (s.put u.b (some (.box (u.B (u.new g cap))))) []:=by
 obtain⟨hok,rfl⟩:=hT.st5 h5;have hne:=hgb _ _ _ hok;refine⟨?_,had,rfl,hF,hC.set hz (by decide) (λ_=>h5) (λh=>absurd h (by decide)),g,cap,cs,hsl.skip (.inl rfl),.inr ⟨by rw[yQo (by omega),if_neg (by decide)];exact h5,hok,?_⟩⟩
 ·rw[hfl];exact yQ9 hne.symm
 ·rw[yQo (by omega),if_neg (by decide),yQo (by omega),if_pos rfl,hfl];unfold st;rw[if_neg (by decide),if_pos rfl,zZs hne]
end UP
theorem zQ3 {ops:Array Oper}{listed:Array Bool}(h:((List.range ops.size).all λi=>(opAt ops i).after.toList.all λe=>!Region.binds .any e || decide (e.on<i))=true)(hz:listed.size=ops.size)(hr:Region.ready .any ops listed=[]):∀i,i<ops.size->listed.getD i false=true:=by
 intro i
 induction i using Nat.strongRecOn with
 | _ i ih =>
  intro hi;refine Classical.byContradiction λhc=>?_;have h4:listed.getD i true=false:=by
   rw[Array.getD_eq_getD_getElem?,Array.getElem?_eq_getElem (by omega)] at hc ⊢;simpa using hc
  have:i∈Region.ready .any ops listed:=mem_ready.2 ⟨h4,_,yZu hi,λe hem hb=>by
   have h5:=List.all_eq_true.1 (List.all_eq_true.1 h i (List.mem_range.2 hi)) e (by simpa using hem);rw[hb] at h5;have h6:e.on<i:=by simpa using h5
   exact ih e.on h6 (Nat.lt_trans h6 hi)⟩
  rw[hr] at this;cases this
def NeedO (s0 st:ISt)(b gL gR:Nat)(L R:List Fm):Prop:=∃xl xr zl zr,st b=some (.box [xl,xr])/\SlO s0 st 4 L.length (zl.flatMap IV.cells) gL xl/\IsFms L zl/\SlO s0 st 4 R.length (zr.flatMap IV.cells) gR xr/\IsFms R zr /\
 (L≠[]->gL≠b/\(R≠[]->gL≠gR))/\(R≠[]->gR≠b)/\∀c,c≠b->(L≠[]->c≠gL)->(R≠[]->c≠gR)->st c=s0 c
theorem SlO.mono {s0 st st':ISt}{s n g:Nat}{cells:List IV}{x:IV}(h:SlO s0 st s n cells g x)(hs:0<n->st' g=st g):SlO s0 st' s n cells g x:=by
 rcases h with h|⟨h1,cap,cs,h2,h3,h4⟩
 ·exact .inl h
 ·exact .inr ⟨h1,cap,cs,h2,by rw[hs h1];exact h3,h4⟩
theorem more {s0 st1 S1:ISt}{b gL gR g cap:Nat}{Lk R:List Fm}{f:Fm}{zl crs cs Bx Bo:List IV}{xl xr y:IV}(hsL:SlO s0 st1 4 Lk.length (zl.flatMap IV.cells) gL xl)(izl:IsFms Lk zl)(hsR:SlO s0 st1 4 R.length crs gR xr)(hne:Lk≠[]->gL≠b/\(R≠[]->gL≠gR))(hRb:R≠[]->gR≠b)
  (hoff:∀c,c≠b->(Lk≠[]->c≠gL)->(R≠[]->c≠gR)->st1 c=s0 c) (hS1:S1=if Lk=[] then st1 else st1.put gL none) (hS1b:S1 b=some (.box Bo)) (hg:S1 g=none) (hc:Lk.length+1<=cap) (hcl:cap*4<=cs.length) (htk:cs.take (Lk.length*4)=zl.flatMap IV.cells) (hy:IsFm f y) (hyc:y.cells.length=4) {s':ISt}
  (hs':s'=(S1.put b (some (.box Bx))).put g (some (.box (yX8 cs (Lk.length*4) y.cells)))) :
  g≠b/\(R≠[]->g≠gR)/\s' b=some (.box Bx)/\SlO s0 s' 4 (Lk++[f]).length ((zl++[y]).flatMap IV.cells) g (.raw (.slice (some ⟨g,0,none⟩) (Lk.length+1) cap))/\IsFms (Lk++[f]) (zl++[y])/\SlO s0 s' 4 R.length crs gR xr/\∀c,c≠b->c≠g->(R≠[]->c≠gR)->s' c=s0 c:=by
 have hgb:g≠b:=λh=>by rw[h,hS1b] at hg;cases hg
 have pos:∀l:List Fm,0<l.length↔l≠[]:=λl=>by cases l<;>simp
 have hRs:R≠[]->st1 gR≠none:=λh=>by
  rcases hsR with⟨h0,_⟩|⟨_,_,_,_,h1,_⟩
  ·exact absurd (List.length_eq_zero_iff.1 h0) h
  ·rw[h1];simp
 have hLs:Lk≠[]->s0 gL=none:=λh=>by
  rcases hsL with⟨h0,_⟩|⟨_,_,_,_,_,_,_,_,h1⟩
  ·exact absurd (List.length_eq_zero_iff.1 h0) h
  ·exact h1
 have hS1c:∀c,(Lk≠[]->c≠gL)->S1 c=st1 c:=λc hc=>by
  rw[hS1];split
  ·rfl
  ·exact yQ9 (hc ‹_›)
 have hgR:R≠[]->g≠gR:=λh hq=>by
  rw[hq,hS1c gR λhl=>((hne hl).2 h).symm] at hg;exact hRs h hg
 have hs0:∀c,c≠b->(R≠[]->c≠gR)->S1 c=s0 c:=λc hcb hcR=>by
  by_cases hl:Lk≠[]/\c=gL
  ·rw[hS1,if_neg hl.1,hl.2,ISt.put_same,hLs hl.1]
  ·have:Lk≠[]->c≠gL:=λh1 h2=>hl ⟨h1,h2⟩;rw[hS1c c this];exact hoff c hcb this hcR
 have hg0:s0 g=none:=by rw[<- hs0 g hgb hgR];exact hg
 have hn4:Lk.length*4+4<=cs.length:=by omega
 refine⟨hgb,hgR,by rw[hs',yQ9 hgb.symm,ISt.put_same],.inr ⟨by simp,cap,yX8 cs (Lk.length*4) y.cells,by rw[lLa];rfl,by rw[hs',ISt.put_same],by simpa using hc,?_,?_,hg0⟩,izl.append ⟨_,_,rfl,hy,rfl⟩,hsR.mono λh=>?_,λc h1 h2 h3=>?_⟩
 ·simp only[yX8,lLa,List.length_take,List.length_drop,hyc];omega
 ·have h6:(cs.take (Lk.length*4)++y.cells).length=(Lk++[f]).length*4:=by
   rw[lLa,List.length_take,hyc,Nat.min_eq_left (by omega),lLa,Nat.add_mul];rfl
  unfold yX8;rw[List.take_append_of_le_length (by omega),List.take_of_length_le (by omega),htk,List.flatMap_append,List.flatMap_singleton]
 ·have hR:=(pos R).1 h;rw[hs',yQ9 (hgR hR).symm,yQ9 (hRb hR),hS1c gR λhl=>((hne hl).2 hR).symm]
 ·rw[hs',yQ9 h2,yQ9 h1];exact hs0 c h1 h3
noncomputable def yX0 (l w:List Fm):List Fm:=l.filter λf=>!hasL w f
theorem yYn (l m w:List Fm):yX0 (l++m) w=yX0 l w++yX0 m w:=by simp[yX0]
theorem xQ8 (s w:Sq)(x y:IV)(hx:IsSq s x)(hy:IsSq w y)(s0 st:ISt)(b gL gR:Nat)(L R:List Fm)(h:NeedO s0 st b gL gR L R)(hl:L.length+R.length+s.l.length+s.r.length<=1000000) :
  ICall prog gl 126 [x,y,ptrI b] st (λr st'=>r=.tup []/\∃gL gR,NeedO s0 st' b gL gR (L++yX0 s.l w.l) (R++yX0 s.r w.r)):=by
 obtain⟨t1,x1,t2,x2,rfl,e1,i1,e2,i2⟩:=hx;obtain⟨t3,x3,t4,x4,rfl,e3,i3,e4,i4⟩:=hy;unfold ptrI;refine ICall.intro (c:=cf prog gl [26,47,22,43] [(5,[]),(11,[])]) func126 rfl (by show _<=51;simp) (by kernel_rfl) ?_;simp only[go_sem,zE,i1.len];intro _;refine LoopC.ctr s.l.length (λk fr st' ds=>(∃gL,NeedO s0 st' b gL gR (L++yX0 (s.l.take k) w.l) R)/\fr 2=.iv (ptrI b)/\fr 3=.box [.sl t1 x1,.sl t2 x2]/\fr 4=.box [.sl t3 x3,.sl t4 x4]/\fr 10=.iv (.sl t1 x1)/\fr 11=.iv (.raw (.int .i64 s.l.length))/\fr 12=.iv (.raw (.int .i64 k))/\ds=[]) ?_ ?_ ?_
 ·simp only[go_sem,zE];exact⟨⟨gL,by simpa[yX0] using h⟩,rfl,rfl⟩
 ·rintro k fr st1 _ hlt ⟨⟨gL,hN⟩,f2,f3,f4,f10,f11,f12,rfl⟩;obtain⟨a,ha⟩:=yQ3 hlt;obtain⟨z,hkz,hz⟩:=i1.get ha;have hh:=λst=>zU6 gl w.l t3 x3 e3 i3 a z hz st;have hz0:=hz;obtain⟨o5,n5,t5,x5,t6,x6,rfl⟩:=hz.agg;simp only[go_sem,zE,zB,zA,zL,f4,f10,f11,f12,lt_i hlt,yQ2 e1,iNn,hkz,fits];refine (hh _).mono ?_;rintro _ st1 ⟨rfl,rfl⟩;cases hb:hasL w.l a
  ·simp only[go_sem];rw[yKg];obtain⟨xl,xr,zl,zr,hbx,hsL,izl,hsR,izr,k1,k2,k3⟩:=hN;have hLk:(L++yX0 (s.l.take k) w.l).length<=1000000:=by
    have:=List.length_filter_le (λf=>!hasL w.l f) (s.l.take k);rw[List.length_take] at this;simp only[yX0,lLa];omega
   generalize hL:L++yX0 (s.l.take k) w.l=Lk at *;have hne:Lk.length≠0↔Lk≠[]:=by cases Lk<;>simp
   obtain⟨S1,hS1⟩:∃S1:ISt,S1=if Lk=[] then st1 else st1.put gL none:=⟨_,rfl⟩
   have hS1b:S1 b=some (.box [xl,xr]):=by
    rw[hS1];split
    ·exact hbx
    ·rw[yQ9 ((k1 ‹_›).1).symm];exact hbx
   obtain⟨u,hu⟩:∃u:UP,u=⟨21,b,0,Lk.length,xl,.agg [.raw (.int .u8 o5),.raw (.string n5),.sl t5 x5,.sl t6 x6],.sl ⟨true,.full,4⟩ [.agg [.raw (.int .u8 0),.raw (.string ⟨#[]⟩),.sl ⟨true,.nil,0⟩ [],.sl ⟨true,.nil,0⟩ []]],st1,S1,λv=>[v,xr],λg cap cs=>S1 g=none/\Lk.length+1<=cap/\cap*4<=cs.length/\cs.take (Lk.length*4)=zl.flatMap IV.cells,
     λfr=>fr 2=.iv (ptrI b)/\fr 3=.box [.sl t1 x1,.sl t2 x2]/\fr 4=.box [.sl t3 x3,.sl t4 x4]/\fr 6=.box [.raw (.int .u8 o5),.raw (.string n5),.sl t5 x5,.sl t6 x6]/\fr 10=.iv (.sl t1 x1)/\fr 11=.iv (.raw (.int .i64 s.l.length))/\fr 12=.iv (.raw (.int .i64 k))⟩:=⟨_,rfl⟩
   have hn:∀g cap,ndO ((u.sl g cap).map (·.map (·.1)))=true:=λg cap=>UP.nd 21 g cap (by rw[hu]) rfl;have hP:∀fr d z,u.d<=d->d<u.d+8->u.P fr->u.P (fr.put d z):=by
    rw[hu];intro fr d z h1 h2 h3;simp only at h1 h2 h3 ⊢;obtain⟨a1,a2,a3,a4,a5,a6,a7⟩:=h3;simp only[Fr.put_apply];refine⟨?_,?_,?_,?_,?_,?_,?_⟩<;>(rw[if_neg (by omega)];assumption)
   have hgb:∀g cap cs,u.ok g cap cs->g≠u.b:=λg cap cs h=>by
    rw[hu] at h ⊢;intro hq;have h1:=h.1;rw[hq] at h1;rw[show S1 _=none from h1] at hS1b;cases hS1b
   refine yJ9 u.J ?_ ?_ _ _ _ _ _ _ rfl ?_
   ·intro listed ad fr st2 ds hz hJ i hi;replace hz:listed.size=10:=hz;obtain⟨h0,o,ho,hdep⟩:=mem_ready.1 hi;have his:i<10:=(Array.getElem?_eq_some_iff.1 ho).1;have hfl:listed.getD i false=false:=by
     rw[Array.getD_eq_getD_getElem?,Array.getElem?_eq_getElem (by omega)] at h0 ⊢;exact h0
    obtain⟨had,rfl,hF,hC,g,cap,cs,hsl,hT⟩:=hJ;have hF0:=hF;have h5:i<5->listed.getD 5 false=false:=λhi=>by
     cases hq:listed.getD 5 false
     ·rfl
     ·rw[hC.1 hq i hi] at hfl;cases hfl
    rw[hu] at hF;obtain⟨f2,f3,f4,f6,f10,f11,f12⟩:=hF;rcases (show i=0\/i=1\/i=2\/i=3\/i=4\/i=5\/i=6\/i=7\/i=8\/i=9 by omega) with rfl|rfl|rfl|rfl|rfl|rfl|rfl|rfl|rfl|rfl
    all_goals obtain rfl:=Option.some.inj ho
    ·unfold ptrI at f2;simp only[go_sem,yQ5,had,f2];refine UP.pure hn hP hz had hF0 hC hsl hT (by decide) (λh=>absurd h (by decide)) ?_;rw[hu];rfl
    ·have d0:=hsl 0 (hdep ⟨0,.data⟩ (by simp) rfl) _ _ rfl;simp only[hu] at d0;obtain rfl:st2=st1:=by
      rcases hT with⟨_,h⟩|⟨h,_⟩
      ·rw[h,hu]
      ·rw[h5 (by decide)] at h;cases h
     simp only[go_sem,zE,yQ5,had,d0,hbx];refine UP.pure hn hP hz had hF0 hC hsl hT (by decide) (λh=>absurd h (by decide)) ?_;rw[hu];rfl
    ·simp only[go_sem,zA,zL,yQ5,had,f6];refine UP.pure hn hP hz had hF0 hC hsl hT (by decide) (λh=>absurd h (by decide)) ?_;rw[hu];rfl
    ·have d1:=hsl 1 (hdep ⟨1,.data⟩ (by simp) rfl) _ _ rfl;simp only[hu] at d1;rcases hsL with⟨hn0,hcz,fz,ez,rfl⟩|⟨hn0,cap0,cs0,rfl,_⟩
     ·simp only[go_sem,yQ5,d1];refine UP.pure hn hP hz had hF0 hC hsl hT (by decide) (λh=>absurd h (by decide)) ?_;rw[hu];simp only[UP.sl,hn0];rfl
     ·simp only[go_sem,yQ5,d1];refine UP.pure hn hP hz had hF0 hC hsl hT (by decide) (λh=>absurd h (by decide)) ?_;rw[hu];rfl
    ·simp only[go_sem,zE,zA,zM,zL,yQ5,fits,yQ1,show allI zZe [Value.int IntKind.u8 0,Value.string { data:=#[] },Value.slice none 0 0,Value.slice none 0 0]=some [.raw (.int .u8 0),.raw (.string ⟨#[]⟩),.sl ⟨true,.nil,0⟩ [],.sl ⟨true,.nil,0⟩ []] from rfl];refine UP.pure hn hP hz had hF0 hC hsl hT (by decide) (λh=>absurd h (by decide)) ?_;rw[hu];rfl
    ·have hall:∀j,j<5->listed.getD j false=true:=λj hj=>by
      rcases (show j=0\/j=1\/j=2\/j=3\/j=4 by omega) with rfl|rfl|rfl|rfl|rfl
      all_goals exact hdep ⟨_,.phase⟩ (by simp) rfl
     obtain rfl:st2=st1:=by
      rcases hT with⟨_,h⟩|⟨h,_⟩
      ·rw[h,hu]
      ·rw[hfl] at h;cases h
     have happ:=λg' cap' cs' hok=>UP.app hn hP hz had hF0 hC hsl hall hfl (g':=g') (cap':=cap') (cs':=cs') hok;have d1:=hsl 1 (hdep ⟨1,.data⟩ (by simp) rfl) _ _ rfl;simp only[hu] at d1;have d4:=hsl 4 (hdep ⟨4,.data⟩ (by simp) rfl) _ _ rfl;simp only[hu] at d4;simp only[hu,UP.new] at happ;rcases hsL with⟨hn0,hcz,fz,ez,rfl⟩|⟨hn0,cap0,cs0,rfl,hg0,hkc0,hcc0,htk0,hgn0⟩
     ·obtain rfl:=List.length_eq_zero_iff.1 hn0;rw[if_pos rfl] at hS1;subst hS1;simp only[go_sem,zE,zA,zM,zL,yQ5,d1,d4,fits];refine λg' cap'=>yQf λ⟨hg',hc'⟩=>?_;rw[hu];exact happ g' cap' _ ⟨hg',hc',by simp[IV.cells];omega,by rw[hcz];rfl⟩
     ·simp only[go_sem,zE,zA,yQ5,d1,d4];rw[if_neg (hne.1 (by omega))] at hS1;refine yKy _ _ _ (cs:=cs0) hg0 (by simp[fits,IV.one]) ⟨by simp only[List.length_singleton];omega,by simp only[List.length_singleton];omega⟩ ⟨hkc0,hcc0⟩ (by simp[IV.cells]) ?_;rintro g' cap' cs' hgn' hc1 hc2 htk';rw[hu,<- hS1];refine happ g' cap' cs' ⟨?_,hc1,hc2,?_⟩
      ·rw[hS1,ISt.put_apply];split
       ·rfl
       ·exact hgn'.resolve_left ‹_›
      ·simp only[List.length_singleton] at htk';have hm:Lk.length*4<=cs0.length:=by omega
       rw[show cs'.take (Lk.length*4)=(cs'.take ((Lk.length+1)*4)).take (Lk.length*4) by rw[List.take_take,Nat.min_eq_left (by omega)],htk',List.take_append_of_le_length (by rw[List.length_take];omega),List.take_take,Nat.min_self,htk0]
    ·have hl5:=hdep ⟨5,.data⟩ (by simp) rfl;have d5:=hsl 5 (hdep ⟨5,.data⟩ (by simp) rfl) _ _ rfl;simp only[hu,UP.new] at d5;have d3:=hsl 3 (hdep ⟨3,.data⟩ (by simp) rfl) _ _ rfl;simp only[hu] at d3;simp only[go_sem,yQ5,d3,d5,if_pos (show 0<=(Lk.length:Int)/\Lk.length<Lk.length+1 from⟨by omega,by omega⟩)];refine UP.pure hn hP hz had hF0 hC hsl hT (by decide) (λ_=>hl5) ?_;rw[hu];rfl
    ·have hl5:=hdep ⟨5,.chain⟩ (by simp) rfl;have d6:=hsl 6 (hdep ⟨6,.data⟩ (by simp) rfl) _ _ rfl;simp only[hu] at d6;have d2:=hsl 2 (hdep ⟨2,.data⟩ (by simp) rfl) _ _ rfl;simp only[hu] at d2;obtain⟨q1,q2⟩:=UP.cell hz had hF0 hC hsl hT hl5 hfl;have hok:=(hT.st5 hl5).1;rw[hu] at hok;obtain⟨_,hok1,hok2,_⟩:=hok;simp only[go_sem,zA,yQ5,had,d6,d2,q1,if_pos (show Lk.length*4+4<=cs.length by omega)];simp only[hu] at q2 ⊢;exact q2
    ·unfold ptrI at f2;have hl5:=hdep ⟨5,.phase⟩ (by simp) rfl;simp only[go_sem,yQ5,had,f2];refine UP.pure hn hP hz had hF0 hC hsl hT (by decide) (λ_=>hl5) ?_;rw[hu];rfl
    ·have hl5:=hdep ⟨5,.data⟩ (by simp) rfl;have d8:=hsl 8 (hdep ⟨8,.data⟩ (by simp) rfl) _ _ rfl;simp only[hu] at d8;have d5:=hsl 5 (hdep ⟨5,.data⟩ (by simp) rfl) _ _ rfl;simp only[hu,UP.new] at d5;obtain⟨q1,q2⟩:=UP.header hgb hz had hF0 hC hsl hT hl5 hfl;simp only[hu,UP.new] at q1 q2;rw[hS1b] at q1;simp only[go_sem,zA,zL,yQ5,had,d8,d5,q1,zWw];simp only[hu] at ⊢;exact q2
   ·intro listed ad fr st2 ds hz hr hJ;have hall:=zQ3 (by decide) hz hr;obtain⟨had,rfl,hF,hC,g,cap,cs,hsl,hT⟩:=hJ;obtain⟨hok,hst2⟩:=hT.st5 (hall 5 (by decide));rw[hall 7 (by decide),hall 9 (by decide)] at hst2;rw[hu] at hF hok hst2;obtain⟨f2,f3,f4,f6,f10,f11,f12⟩:=hF;obtain⟨hok0,hok1,hok2,hok3⟩:=hok;obtain⟨r1,r2,r3,r4,r5,r6,r7⟩:=more hsL izl hsR k1 k2 k3 hS1 hS1b hok0 hok1 hok2 hok3 hz0 rfl hst2;simp only[go_sem,zE,f2,f3,f4,f10,f11,f12,yQa hlt (show s.l.length<=281474976710656 by omega)];refine⟨g,?_⟩;rw[yQ8 ha,yYn,show yX0 [a] w.l=[a] by simp[yX0,hb],<- List.append_assoc,hL];exact⟨_,_,_,_,r3,r4,r5,r6,izr,λ_=>⟨r1,r2⟩,k2,λc h1 h2 h3=>r7 c h1 (h2 (by simp)) h3⟩
   ·rw[hu];exact⟨λ_=>rfl,rfl,⟨f2,f3,f4,rfl,f10,f11,f12⟩,⟨(λh=>by rw[yXw] at h;cases h),(λi hi h=>by rw[yXw] at h;cases h)⟩,0,0,[],SlotsOk.start _ _ _,.inl ⟨rfl,rfl⟩⟩
  ·simp only[go_sem,zE,f2,f3,f4,f10,f11,f12,yQa hlt (show s.l.length<=281474976710656 by omega)];refine⟨gL,?_⟩;rw[yQ8 ha,yYn,show yX0 [a] w.l=[] by simp[yX0,hb],List.append_nil];exact hN
 ·rintro fr st1 _ ⟨⟨gL,hN⟩,f2,f3,f4,f10,f11,f12,rfl⟩;rw[lTl] at hN;simp only[go_sem,zE,f3,f11,f12,yQk (nLi _),i2.len];intro _;refine LoopC.ctr s.r.length (λk fr st' ds=>(∃gR,NeedO s0 st' b gL gR (L++yX0 s.l w.l) (R++yX0 (s.r.take k) w.r))/\fr 2=.iv (ptrI b)/\fr 4=.box [.sl t3 x3,.sl t4 x4]/\fr 31=.iv (.sl t2 x2)/\fr 32=.iv (.raw (.int .i64 s.r.length))/\fr 33=.iv (.raw (.int .i64 k))/\ds=[]) ?_ ?_ ?_
  ·simp only[go_sem,zE,f2,f4];exact⟨⟨gR,by simpa[yX0] using hN⟩,rfl⟩
  ·rintro k fr st1 _ hlt ⟨⟨gR,hN⟩,f2,f4,f31,f32,f33,rfl⟩;obtain⟨a,ha⟩:=yQ3 hlt;obtain⟨z,hkz,hz⟩:=i2.get ha;have hh:=λst=>zU6 gl w.r t4 x4 e4 i4 a z hz st;have hz0:=hz;obtain⟨o5,n5,t5,x5,t6,x6,rfl⟩:=hz.agg;simp only[go_sem,zE,zB,zA,zL,f4,f31,f32,f33,lt_i hlt,yQ2 e2,iNn,hkz,fits];refine (hh _).mono ?_;rintro _ st1 ⟨rfl,rfl⟩;generalize L++yX0 s.l w.l=L' at *;cases hb:hasL w.r a
   ·simp only[go_sem,zE];rw[yKg];obtain⟨xl,xr,zl,zr,hbx,hsL,izl,hsR,izr,k1,k2,k3⟩:=hN;have hRk:(R++yX0 (s.r.take k) w.r).length<=1000000:=by
     have:=List.length_filter_le (λf=>!hasL w.r f) (s.r.take k);rw[List.length_take] at this;simp only[yX0,lLa];omega
    generalize hR:R++yX0 (s.r.take k) w.r=Rk at *;have hne:Rk.length≠0↔Rk≠[]:=by cases Rk<;>simp
    obtain⟨S1,hS1⟩:∃S1:ISt,S1=if Rk=[] then st1 else st1.put gR none:=⟨_,rfl⟩
    have hS1b:S1 b=some (.box [xl,xr]):=by
     rw[hS1];split
     ·exact hbx
     ·rw[yQ9 (k2 ‹_›).symm];exact hbx
    obtain⟨u,hu⟩:∃u:UP,u=⟨42,b,1,Rk.length,xr,.agg [.raw (.int .u8 o5),.raw (.string n5),.sl t5 x5,.sl t6 x6],.sl ⟨true,.full,4⟩ [.agg [.raw (.int .u8 0),.raw (.string ⟨#[]⟩),.sl ⟨true,.nil,0⟩ [],.sl ⟨true,.nil,0⟩ []]],st1,S1,λv=>[xl,v],λg cap cs=>S1 g=none/\Rk.length+1<=cap/\cap*4<=cs.length/\cs.take (Rk.length*4)=zr.flatMap IV.cells,
      λfr=>fr 2=.iv (ptrI b)/\fr 4=.box [.sl t3 x3,.sl t4 x4]/\fr 8=.box [.raw (.int .u8 o5),.raw (.string n5),.sl t5 x5,.sl t6 x6]/\fr 31=.iv (.sl t2 x2)/\fr 32=.iv (.raw (.int .i64 s.r.length))/\fr 33=.iv (.raw (.int .i64 k))⟩:=⟨_,rfl⟩
    have hn:∀g cap,ndO ((u.sl g cap).map (·.map (·.1)))=true:=λg cap=>UP.nd 42 g cap (by rw[hu]) rfl;have hP:∀fr d z,u.d<=d->d<u.d+8->u.P fr->u.P (fr.put d z):=by
     rw[hu];intro fr d z h1 h2 h3;simp only at h1 h2 h3 ⊢;obtain⟨a1,a2,a3,a4,a5,a6⟩:=h3;simp only[Fr.put_apply];refine⟨?_,?_,?_,?_,?_,?_⟩<;>(rw[if_neg (by omega)];assumption)
    have hgb:∀g cap cs,u.ok g cap cs->g≠u.b:=λg cap cs h=>by
     rw[hu] at h ⊢;intro hq;have h1:=h.1;rw[hq] at h1;rw[show S1 _=none from h1] at hS1b;cases hS1b
    refine yJ9 u.J ?_ ?_ _ _ _ _ _ _ rfl ?_
    ·intro listed ad fr st2 ds hz hJ i hi;replace hz:listed.size=10:=hz;obtain⟨h0,o,ho,hdep⟩:=mem_ready.1 hi;have his:i<10:=(Array.getElem?_eq_some_iff.1 ho).1;have hfl:listed.getD i false=false:=by
      rw[Array.getD_eq_getD_getElem?,Array.getElem?_eq_getElem (by omega)] at h0 ⊢;exact h0
     obtain⟨had,rfl,hF,hC,g,cap,cs,hsl,hT⟩:=hJ;have hF0:=hF;have h5:i<5->listed.getD 5 false=false:=λhi=>by
      cases hq:listed.getD 5 false
      ·rfl
      ·rw[hC.1 hq i hi] at hfl;cases hfl
     rw[hu] at hF;obtain⟨f2,f4,f8,f31,f32,f33⟩:=hF;rcases (show i=0\/i=1\/i=2\/i=3\/i=4\/i=5\/i=6\/i=7\/i=8\/i=9 by omega) with rfl|rfl|rfl|rfl|rfl|rfl|rfl|rfl|rfl|rfl
     all_goals obtain rfl:=Option.some.inj ho
     ·unfold ptrI at f2;simp only[go_sem,yQ5,had,f2];refine UP.pure hn hP hz had hF0 hC hsl hT (by decide) (λh=>absurd h (by decide)) ?_;rw[hu];rfl
     ·have d0:=hsl 0 (hdep ⟨0,.data⟩ (by simp) rfl) _ _ rfl;simp only[hu] at d0;obtain rfl:st2=st1:=by
       rcases hT with⟨_,h⟩|⟨h,_⟩
       ·rw[h,hu]
       ·rw[h5 (by decide)] at h;cases h
      simp only[go_sem,zE,yQ5,had,d0,hbx];refine UP.pure hn hP hz had hF0 hC hsl hT (by decide) (λh=>absurd h (by decide)) ?_;rw[hu];rfl
     ·simp only[go_sem,zA,zL,yQ5,had,f8];refine UP.pure hn hP hz had hF0 hC hsl hT (by decide) (λh=>absurd h (by decide)) ?_;rw[hu];rfl
     ·have d1:=hsl 1 (hdep ⟨1,.data⟩ (by simp) rfl) _ _ rfl;simp only[hu] at d1;rcases hsR with⟨hn0,hcz,fz,ez,rfl⟩|⟨hn0,cap0,cs0,rfl,_⟩
      ·simp only[go_sem,yQ5,d1];refine UP.pure hn hP hz had hF0 hC hsl hT (by decide) (λh=>absurd h (by decide)) ?_;rw[hu];simp only[UP.sl,hn0];rfl
      ·simp only[go_sem,yQ5,d1];refine UP.pure hn hP hz had hF0 hC hsl hT (by decide) (λh=>absurd h (by decide)) ?_;rw[hu];rfl
     ·simp only[go_sem,zE,zA,zM,zL,yQ5,fits,yQ1,show allI zZe [Value.int IntKind.u8 0,Value.string { data:=#[] },Value.slice none 0 0,Value.slice none 0 0]=some [.raw (.int .u8 0),.raw (.string ⟨#[]⟩),.sl ⟨true,.nil,0⟩ [],.sl ⟨true,.nil,0⟩ []] from rfl];refine UP.pure hn hP hz had hF0 hC hsl hT (by decide) (λh=>absurd h (by decide)) ?_;rw[hu];rfl
     ·have hall:∀j,j<5->listed.getD j false=true:=λj hj=>by
       rcases (show j=0\/j=1\/j=2\/j=3\/j=4 by omega) with rfl|rfl|rfl|rfl|rfl
       all_goals exact hdep ⟨_,.phase⟩ (by simp) rfl
      obtain rfl:st2=st1:=by
       rcases hT with⟨_,h⟩|⟨h,_⟩
       ·rw[h,hu]
       ·rw[hfl] at h;cases h
      have happ:=λg' cap' cs' hok=>UP.app hn hP hz had hF0 hC hsl hall hfl (g':=g') (cap':=cap') (cs':=cs') hok;have d1:=hsl 1 (hdep ⟨1,.data⟩ (by simp) rfl) _ _ rfl;simp only[hu] at d1;have d4:=hsl 4 (hdep ⟨4,.data⟩ (by simp) rfl) _ _ rfl;simp only[hu] at d4;simp only[hu,UP.new] at happ;rcases hsR with⟨hn0,hcz,fz,ez,rfl⟩|⟨hn0,cap0,cs0,rfl,hg0,hkc0,hcc0,htk0,hgn0⟩
      ·obtain rfl:=List.length_eq_zero_iff.1 hn0;rw[if_pos rfl] at hS1;subst hS1;simp only[go_sem,zE,zA,zM,zL,yQ5,d1,d4,fits];refine λg' cap'=>yQf λ⟨hg',hc'⟩=>?_;rw[hu];exact happ g' cap' _ ⟨hg',hc',by simp[IV.cells];omega,by rw[hcz];rfl⟩
      ·simp only[go_sem,zE,zA,yQ5,d1,d4];rw[if_neg (hne.1 (by omega))] at hS1;refine yKy _ _ _ (cs:=cs0) hg0 (by simp[fits,IV.one]) ⟨by simp only[List.length_singleton];omega,by simp only[List.length_singleton];omega⟩ ⟨hkc0,hcc0⟩ (by simp[IV.cells]) ?_;rintro g' cap' cs' hgn' hc1 hc2 htk';rw[hu,<- hS1];refine happ g' cap' cs' ⟨?_,hc1,hc2,?_⟩
       ·rw[hS1,ISt.put_apply];split
        ·rfl
        ·exact hgn'.resolve_left ‹_›
       ·simp only[List.length_singleton] at htk';have hm:Rk.length*4<=cs0.length:=by omega
        rw[show cs'.take (Rk.length*4)=(cs'.take ((Rk.length+1)*4)).take (Rk.length*4) by rw[List.take_take,Nat.min_eq_left (by omega)],htk',List.take_append_of_le_length (by rw[List.length_take];omega),List.take_take,Nat.min_self,htk0]
     ·have hl5:=hdep ⟨5,.data⟩ (by simp) rfl;have d5:=hsl 5 (hdep ⟨5,.data⟩ (by simp) rfl) _ _ rfl;simp only[hu,UP.new] at d5;have d3:=hsl 3 (hdep ⟨3,.data⟩ (by simp) rfl) _ _ rfl;simp only[hu] at d3;simp only[go_sem,yQ5,d3,d5,if_pos (show 0<=(Rk.length:Int)/\Rk.length<Rk.length+1 from⟨by omega,by omega⟩)];refine UP.pure hn hP hz had hF0 hC hsl hT (by decide) (λ_=>hl5) ?_;rw[hu];rfl
     ·have hl5:=hdep ⟨5,.chain⟩ (by simp) rfl;have d6:=hsl 6 (hdep ⟨6,.data⟩ (by simp) rfl) _ _ rfl;simp only[hu] at d6;have d2:=hsl 2 (hdep ⟨2,.data⟩ (by simp) rfl) _ _ rfl;simp only[hu] at d2;obtain⟨q1,q2⟩:=UP.cell hz had hF0 hC hsl hT hl5 hfl;have hok:=(hT.st5 hl5).1;rw[hu] at hok;obtain⟨_,hok1,hok2,_⟩:=hok;simp only[go_sem,zA,yQ5,had,d6,d2,q1,if_pos (show Rk.length*4+4<=cs.length by omega)];simp only[hu] at q2 ⊢;exact q2
     ·unfold ptrI at f2;have hl5:=hdep ⟨5,.phase⟩ (by simp) rfl;simp only[go_sem,yQ5,had,f2];refine UP.pure hn hP hz had hF0 hC hsl hT (by decide) (λ_=>hl5) ?_;rw[hu];rfl
     ·have hl5:=hdep ⟨5,.data⟩ (by simp) rfl;have d8:=hsl 8 (hdep ⟨8,.data⟩ (by simp) rfl) _ _ rfl;simp only[hu] at d8;have d5:=hsl 5 (hdep ⟨5,.data⟩ (by simp) rfl) _ _ rfl;simp only[hu,UP.new] at d5;obtain⟨q1,q2⟩:=UP.header hgb hz had hF0 hC hsl hT hl5 hfl;simp only[hu,UP.new] at q1 q2;rw[hS1b] at q1;simp only[go_sem,zA,zL,yQ5,had,d8,d5,q1,zWw];simp only[hu] at ⊢;exact q2
    ·intro listed ad fr st2 ds hz hr hJ;have hall:=zQ3 (by decide) hz hr;obtain⟨had,rfl,hF,hC,g,cap,cs,hsl,hT⟩:=hJ;obtain⟨hok,hst2⟩:=hT.st5 (hall 5 (by decide));rw[hall 7 (by decide),hall 9 (by decide)] at hst2;rw[hu] at hF hok hst2;obtain⟨f2,f4,f8,f31,f32,f33⟩:=hF;obtain⟨hok0,hok1,hok2,hok3⟩:=hok;obtain⟨r1,r2,r3,r4,r5,r6,r7⟩:=more hsR izr hsL (λh=>⟨k2 h,λhl=>((k1 hl).2 h).symm⟩) (λhl=>(k1 hl).1) (λc h1 h2 h3=>k3 c h1 h3 h2) hS1 hS1b hok0 hok1 hok2 hok3 hz0 rfl hst2;simp only[go_sem,zE,f2,f4,f31,f32,f33,yQa hlt (show s.r.length<=281474976710656 by omega)];refine⟨g,?_⟩;rw[yQ8 ha,yYn,show yX0 [a] w.r=[a] by simp[yX0,hb],<- List.append_assoc,hR];exact⟨_,_,_,_,r3,r6,izl,r4,r5,λhl=>⟨(k1 hl).1,λ_=>(r2 hl).symm⟩,λ_=>r1,λc h1 h2 h3=>r7 c h1 (h3 (by simp)) h2⟩
    ·rw[hu];exact⟨λ_=>rfl,rfl,⟨f2,f4,rfl,f31,f32,f33⟩,⟨(λh=>by rw[yXw] at h;cases h),(λi hi h=>by rw[yXw] at h;cases h)⟩,0,0,[],SlotsOk.start _ _ _,.inl ⟨rfl,rfl⟩⟩
   ·simp only[go_sem,zE,f2,f4,f31,f32,f33,yQa hlt (show s.r.length<=281474976710656 by omega)];refine⟨gR,?_⟩;rw[yQ8 ha,yYn,show yX0 [a] w.r=[] by simp[yX0,hb],List.append_nil];exact hN
  ·rintro fr st1 _ ⟨⟨gR,hN⟩,f2,f4,f31,f32,f33,rfl⟩;rw[lTl] at hN;simp only[go_sem,f32,f33,yQk (nLi _)];exact yQ0 ⟨rfl,gL,gR,hN⟩
noncomputable def zXa (q s w:Sq):Sq:=⟨q.l++yX0 s.l w.l,q.r++yX0 s.r w.r⟩
noncomputable def yJa (fin:Sq->Tr):List Sq->List Tr->Sq->Tr
 | _,[],q=>fin q
 | [],s::_,_=>s
 | a::al,s::ss,q=>if !yXn a.l s.sq.l&&!yXn a.r s.sq.r then s else yJa fin al ss (zXa q s.sq a)
def zJa (rule:Nat)(m:Fm):Sq:=if rule=1 then ⟨[m],[m]⟩ else if yV8 rule then ⟨[m],[]⟩ else if rule≠17 then ⟨[],[m]⟩ else ⟨[],[]⟩
noncomputable def addU (rule:Nat)(m:Fm):List Sq:=(yVp 1 rule m tm0 bE).1
noncomputable def zXj (rule:Nat)(s:Sq)(m:Fm)(subs:List Tr):Tr:=yJa (λq=>.mk rule ⟨yZn s.l q.l,yZn s.r q.r⟩ m tm0 bE subs) (addU rule m) subs (zJa rule m)
theorem zJf (l:List Fm):yX0 l []=l:=by simp[yX0,hasL]
theorem NeedO.sub {s0 st:ISt}{b gL gR:Nat}{L R:List Fm}(h:NeedO s0 st b gL gR L R)(hb:s0 b=none):subSt s0 st:=by
 obtain⟨xl,xr,zl,zr,h1,h2,_,h4,_,_,_,h8⟩:=h;have none:∀ {s n cells g x},SlO s0 st s n cells g x->0<n->s0 g=none:=λhs hn=>by
  rcases hs with⟨h,_⟩|⟨_,_,_,_,_,_,_,_,h⟩
  ·omega
  ·exact h
 intro c o hc;have pos:∀l:List Fm,l≠[]->0<l.length:=λl h=>by cases l<;>simp at *
 rw[h8 c (λh=>by rw[h,hb] at hc;cases hc) (λhl h=>by rw[h,none h2 (pos _ hl)] at hc;cases hc) (λhl h=>by rw[h,none h4 (pos _ hl)] at hc;cases hc)];exact hc
theorem zKv (fin:Sq->Tr)(al:List Sq)(q:Sq):yJa fin al [] q=fin q:=by cases al<;>rfl
theorem NeedO.off {s0 st:ISt}{b gL gR:Nat}{L R:List Fm}(h:NeedO s0 st b gL gR L R):(L≠[]->s0 gL=none)/\(R≠[]->s0 gR=none):=by
 obtain⟨xl,xr,zl,zr,h1,h2,_,h4,_,_,_,h8⟩:=h;have none:∀ {l:List Fm} {s cells g x},SlO s0 st s l.length cells g x->l≠[]->s0 g=none:=λhs hn=>by
  rcases hs with⟨h,_⟩|⟨_,_,_,_,_,_,_,_,h⟩
  ·exact absurd (List.length_eq_zero_iff.1 h) hn
  ·exact h
 exact⟨none h2,none h4⟩
def SU (st:ISt)(eL eR:Bool)(gL gR:Nat)(a b:Bool):ISt:=λc=>if (a=true/\eL=true/\c=gL)\/(b=true/\eR=true/\c=gR) then none else st c
theorem SU_ff {st:ISt}{eL eR:Bool}{gL gR:Nat}:SU st eL eR gL gR false false=st:=by
 funext c;simp[SU]
theorem vW5 {st:ISt}{L R:List Fm}{gL gR c:Nat}{a b:Bool}(h1:L≠[]->c≠gL)(h2:R≠[]->c≠gR):SU st (!L.isEmpty) (!R.isEmpty) gL gR a b c=st c:=by
 unfold SU;rw[if_neg];simp only[Bool.not_eq_true',List.isEmpty_eq_false_iff];rintro (⟨_,h,h'⟩|⟨_,h,h'⟩)
 ·exact h1 h h'
 ·exact h2 h h'
theorem SU_L {st:ISt}{L R:List Fm}{gL gR:Nat}{b:Bool}(h:R≠[]->gL≠gR):SU st (!L.isEmpty) (!R.isEmpty) gL gR false b gL=st gL:=by
 unfold SU;rw[if_neg];simp only[Bool.not_eq_true',List.isEmpty_eq_false_iff,bFt,false_and,false_or];exact λh'=>h h'.2.1 h'.2.2
theorem SU_R {st:ISt}{L R:List Fm}{gL gR:Nat}{a:Bool}(h:L≠[]->gR≠gL):SU st (!L.isEmpty) (!R.isEmpty) gL gR a false gR=st gR:=by
 unfold SU;rw[if_neg];simp only[Bool.not_eq_true',List.isEmpty_eq_false_iff,bFt,false_and,or_false];exact λh'=>h h'.2.1 h'.2.2
theorem kQz {st:ISt}{eR:Bool}{gL gR:Nat}{b:Bool}:(SU st true eR gL gR false b).put gL none=SU st true eR gL gR true b:=by
 funext c;rw[ISt.put_apply];unfold SU;by_cases h:c=gL<;>simp[h]
theorem kQy {st:ISt}{eL:Bool}{gL gR:Nat}{a:Bool}:(SU st eL true gL gR a false).put gR none=SU st eL true gL gR a true:=by
 funext c;rw[ISt.put_apply];unfold SU;by_cases h:c=gR<;>simp[h]
theorem vW7 {st:ISt}{eR:Bool}{gL gR:Nat}{a b:Bool}:SU st false eR gL gR a b=SU st false eR gL gR false b:=by
 funext c;simp[SU]
theorem vW6 {st:ISt}{eL:Bool}{gL gR:Nat}{a b:Bool}:SU st eL false gL gR a b=SU st eL false gL gR a false:=by
 funext c;simp[SU]
theorem zUx {l:List Fm}{xs:List IV}(h:IsFms l xs):∀x∈xs,x.cells.length=4:=λx hx=>by
 have:=yWs h x hx;exact (yJ8 this).2.1
def UsP (rule:Nat)(s:Sq)(f:Fm)(sv r:IV):Prop:=∃tL xL tR xR o n t xs t' ys,r=.agg [.raw (.int .u8 rule),.sl tL xL,.sl tR xR,.raw (.int .u8 o),.raw (.string n),.sl t xs,.sl t' ys,.raw (.bool false),.raw (.string ⟨#[]⟩),.sl ⟨true,.nil,0⟩ [],.raw (.string ⟨#[]⟩),sv] /\
 vQy rule s f [.raw (.int .u8 rule),.sl tL xL,.sl tR xR,.raw (.int .u8 o),.raw (.string n),.sl t xs,.sl t' ys,.raw (.bool false),.raw (.string ⟨#[]⟩),.sl ⟨true,.nil,0⟩ [],.raw (.string ⟨#[]⟩)]
theorem wVp:∀ {l:List Tr}{zs cs:List IV}{k:Nat}{z:IV},IsTrs l zs->cs=zs.flatMap IV.cells->zs[k]?=some z->k*12+12<=cs.length/\(cs.drop (k*12)).take 12=z.cells
 | [],_,_,k,z,h,_,hk=>by simp only[IsTrs] at h;subst h;simp at hk
 | a::l,_,_,k,z,h,hc,hk=>by
  have hcl:=yU5 h;simp only[IsTrs] at h;obtain⟨y,ys,rfl,hy,h⟩:=h;have hy12:=hcl y (by simp);subst hc;rw[List.flatMap_cons];cases k with
  | zero =>
   cases hk;exact⟨by rw[lLa,hy12];omega,by rw[Nat.zero_mul,List.drop_zero,List.take_left' hy12]⟩
  | succ k =>
   obtain⟨h1,h2⟩:=wVp h rfl (by simpa using hk);refine⟨by rw[lLa,hy12];omega,?_⟩;rw[show (k+1)*12=y.cells.length+k*12 by omega,<- List.drop_drop,List.drop_left];exact h2
set_option maxHeartbeats 2000000 in
theorem vXj (G:Gl gl)(rd:IV)(mp:Nat)(hrd:rd=.agg [.raw (.map (some mp))])(rule:Nat)(s:Sq)(mn:Fm)(u:Tm)(nm:ByteArray)(sb:List Tr)(x:IV)(hx:IsTr (.mk rule s mn u nm sb) x)(subs:List Tr)(g:Nat)(cs zs:List IV)(hzs:IsTrs subs zs)(hzd:dfrs zs)(hct:cs=zs.flatMap IV.cells)
  (hsz:mn.size<=100000) (hs1:yQ7 s.l<=100000) (hs2:yQ7 s.r<=100000) (hq:∀a∈subs,a.sq.l.length+a.sq.r.length<=1000) (hn:subs.length<=300) (st:ISt) (es:List (Value×IV)) (hm:st mp=some (.map (.int .u8) es)) (hl:zW1 es) (hg:st g=some (.box cs)) :
  ICall prog gl 84 [rd,x,.agg [],.raw (.slice (some ⟨g,0,none⟩) subs.length subs.length)] st (λr st'=>((IsTr (zXj rule s mn subs) r/\dfr r)\/∃s',zXj rule s mn subs=.mk rule s' mn tm0 bE subs/\UsP rule s' mn (.raw (.slice (some ⟨g,0,none⟩) subs.length subs.length)) r)/\st'=st):=by
 subst hrd;obtain⟨tl,xl,tr,xr,op,fn,ta,xa,tb,xb,v,un,tu,xu,ts,xs,rfl,hru,e1,i1,e2,i2,hy,hz,e3,i3⟩:=hx.mk;have hcopy:=λst=>zQ2 gl mn _ hy (by omega) st;have hA:=λst=>wXc gl G 1 rule mn _ hy (by omega) tm0 (.agg [.raw (.bool false),.raw (.string ⟨#[]⟩),.sl ⟨true,.nil,0⟩ []]) ⟨_,_,rfl,.inl rfl,rfl⟩ (by decide) bE st;have hlk:=hl rule;have hr1:((rule:Int)=1)=(rule=1):=propext (by omega);have hr17:((rule:Int)=17)=(rule=17):=propext (by omega);have hmain:IsFms [mn] [.agg [.raw (.int .u8 op),.raw (.string fn),.sl ta xa,.sl tb xb]]:=⟨_,_,rfl,hy,rfl⟩
 have hcol:=λq L R t1 x1 t2 x2 (h1:IsSq q (.agg [.sl t1 x1,.sl t2 x2])) s0 st b gL gR (h:NeedO s0 st b gL gR L R) hl=>xQ8 gl q ⟨[],[]⟩ _ (.agg [.sl ⟨true,.nil,0⟩ [],.sl ⟨true,.nil,0⟩ []]) h1 ⟨_,_,_,_,rfl,.inl rfl,rfl,.inl rfl,rfl⟩ s0 st b gL gR L R h hl;refine ICall.intro (c:=cf prog gl [9,110,116] [(18,[])] [5]) func84 rfl (by show _<=124;simp) (by kernel_rfl) ?_;simp only[go_sem,zE,zB,zA,zM,zS,zL,reduceCtorEq,fits];refine λb=>yQf λhb=>?_;have hN0:NeedO st (st.put b (some (.box [.sl ⟨true,.nil,0⟩ [],.sl ⟨true,.nil,0⟩ []]))) b b b [] []:=⟨_,_,[],[],ISt.put_same ..,.inl ⟨rfl,rfl,_,_,rfl⟩,rfl,.inl ⟨rfl,rfl,_,_,rfl⟩,rfl,λh=>absurd rfl h,λh=>absurd rfl h,λc h _ _=>yQ9 h⟩
 have hbm:mp≠b:=λh=>by rw[<- h,hm] at hb;cases hb
 have hq0:zJa rule mn=if rule=1 then ⟨[mn],[mn]⟩ else if yV8 rule then ⟨[mn],[]⟩ else if rule≠17 then ⟨[],[mn]⟩ else ⟨[],[]⟩:=rfl
 have hun:zXj rule s mn subs=yJa (λq=>.mk rule ⟨yZn s.l q.l,yZn s.r q.r⟩ mn tm0 bE subs) (addU rule mn) subs (zJa rule mn):=rfl;generalize zJa rule mn=q at hq0 hun;have look0:∀z,zKi false none z=some z:=λ_=>rfl;have look1:∀v z,zKi false (some v) z=some v:=λ_ _=>rfl;have hsz0:(if (#[]:Array UInt8).size<=281474976710656 then some (IV.raw (Value.string { data:=#[] })) else none)=some (IV.raw (Value.string { data:=#[] })):=rfl;rcases (show rule=1\/(rule≠1/\yV8 rule=true)\/(rule≠1/\yV8 rule=false/\rule=17)\/(rule≠1/\yV8 rule=false/\rule≠17) by
  by_cases h1:rule=1
  ·exact .inl h1
  ·by_cases h2:rule=17<;>cases yV8 rule<;>simp[h1,h2]) with h1|h1|h1|h1
 all_goals first
  | (rw[if_pos h1] at hq0
     have d1:decide ((rule:Int)=1)=true:=dEt (by omega);simp only[go_sem,zE,zB,zA,zM,zS,zL,reduceCtorEq,fits,yQ1,d1];refine (hcol ⟨[mn],[mn]⟩ _ _ _ _ _ _ ⟨_,_,_,_,rfl,.inr rfl,hmain,.inr rfl,hmain⟩ _ _ _ _ _ hN0 (by simp)).mono ?_;rintro _ st1 ⟨rfl,gL,gR,hN⟩;simp only[zJf,List.nil_append] at hN;have hN1:NeedO st st1 b gL gR q.l q.r:=by rw[hq0];exact hN
     have hqn:q.l.length+q.r.length<=2:=by rw[hq0];simp
     simp only[go_sem,zE,zB,zA,zM,zS,zL,reduceCtorEq,fits,hsz0])
  | (have d1:decide ((rule:Int)=1)=false:=dEf (by omega)
     rw[if_neg h1.1,h1.2,if_pos rfl] at hq0;rw[h1.2,if_pos rfl] at hlk;simp only[go_sem,zE,zB,zA,zM,zS,zL,reduceCtorEq,fits,yQ1,d1,yQ9 hbm,hm,hlk,look1];refine (hcol ⟨[mn],[]⟩ _ _ _ _ _ _ ⟨_,_,_,_,rfl,.inr rfl,hmain,.inl rfl,rfl⟩ _ _ _ _ _ hN0 (by simp)).mono ?_;rintro _ st1 ⟨rfl,gL,gR,hN⟩;simp only[zJf,List.nil_append] at hN;have hN1:NeedO st st1 b gL gR q.l q.r:=by rw[hq0];exact hN
     have hqn:q.l.length+q.r.length<=2:=by rw[hq0];simp
     simp only[go_sem,zE,zB,zA,zM,zS,zL,reduceCtorEq,fits,hsz0])
  | (have d1:decide ((rule:Int)=1)=false:=dEf (by omega)
     have d2:decide ((rule:Int)=17)=true:=dEt (by omega);rw[if_neg h1.1,h1.2.1,if_neg (by decide),if_neg (λh=>h h1.2.2)] at hq0;rw[h1.2.1,if_neg (by decide)] at hlk;simp only[go_sem,zE,zB,zA,zM,zS,zL,reduceCtorEq,fits,yQ1,d1,yQ9 hbm,hm,hlk,look0,d2];obtain⟨st1,hst1⟩:∃st1,st1=st.put b (some (.box [.sl ⟨true,.nil,0⟩ [],.sl ⟨true,.nil,0⟩ []])):=⟨_,rfl⟩
     rw[<- hst1];rw[<- hst1] at hN0;have hN1:NeedO st st1 b b b q.l q.r:=by rw[hq0];exact hN0
     have hqn:q.l.length+q.r.length<=2:=by rw[hq0];simp
     simp only[go_sem,zE,zB,zA,zM,zS,zL,reduceCtorEq,fits,hsz0])
  | (have d1:decide ((rule:Int)=1)=false:=dEf (by omega)
     have d2:decide ((rule:Int)=17)=false:=dEf (by omega);rw[if_neg h1.1,h1.2.1,if_neg (by decide),if_pos h1.2.2] at hq0;rw[h1.2.1,if_neg (by decide)] at hlk;simp only[go_sem,zE,zB,zA,zM,zS,zL,reduceCtorEq,fits,yQ1,d1,yQ9 hbm,hm,hlk,look0,d2];refine (hcol ⟨[],[mn]⟩ _ _ _ _ _ _ ⟨_,_,_,_,rfl,.inl rfl,rfl,.inr rfl,hmain⟩ _ _ _ _ _ hN0 (by simp)).mono ?_;rintro _ st1 ⟨rfl,gL,gR,hN⟩;simp only[zJf,List.nil_append] at hN;have hN1:NeedO st st1 b gL gR q.l q.r:=by rw[hq0];exact hN
     have hqn:q.l.length+q.r.length<=2:=by rw[hq0];simp
     simp only[go_sem,zE,zB,zA,zM,zS,zL,reduceCtorEq,fits,hsz0])
 all_goals
  refine (hA _).mono ?_;rintro _ st1 ⟨tgA,xsA,rfl,eA,_,iA,rfl⟩;replace iA:IsSqs (addU rule mn) xsA:=iA.w;simp only[go_sem,zE,zB,zA,zM,zS,zL,reduceCtorEq,fits];intros;refine LoopC.ctr subs.length (λk fr st' ds=>(∃gL gR q,NeedO st st' b gL gR q.l q.r/\zXj rule s mn subs=yJa (λq=>.mk rule ⟨yZn s.l q.l,yZn s.r q.r⟩ mn tm0 bE subs) ((addU rule mn).drop k) (subs.drop k) q/\q.l.length+q.r.length<=2+1000*k) /\
   fr 3=.iv (.raw (.slice (some ⟨g,0,none⟩) subs.length subs.length))/\fr 4=.box [.raw (.map (some mp))]/\fr 5=.iv (.cptr (.agg [.raw (.int .u8 rule),.sl tl xl,.sl tr xr,.raw (.int .u8 op),.raw (.string fn),.sl ta xa,.sl tb xb,.raw (.bool v),.raw (.string un),.sl tu xu,.raw (.string nm),.sl ts xs]))/\fr 8=.box trZ/\fr 9=.iv (ptrI b)/\fr 10=.iv (.fn (.func 126) [] [ptrI b])/\fr 12=.iv (.sl tgA xsA) /\
   fr 59=.iv (.raw (.slice (some ⟨g,0,none⟩) subs.length subs.length))/\fr 60=.iv (.raw (.int .i64 subs.length))/\fr 61=.iv (.raw (.int .i64 k))/\ds=[]) ?_ ?_ ?_
  ·simp only[go_sem,zE,zB,zA,zM,zS,zL,reduceCtorEq];exact⟨⟨_,_,q,hN1,hun,by omega⟩,rfl,rfl,rfl,rfl⟩
  ·rintro k fr st1 _ hlt ⟨⟨gL,gR,q,hN,hgo,hql⟩,f3,f4,f5,f8,f9,f10,f12,f59,f60,f61,rfl⟩;obtain⟨a,ha⟩:=yQ3 hlt;obtain⟨z,hkz,hz⟩:=hzs.get ha;have hqa:=hq a (lMg ha);have hz0:=hz;have hgb:=hN.sub hb _ _ hg;have hzr:=wVp hzs hct hkz;have hzdr:=yJy hzd (lMg hkz);have hdr:subs.drop k=a::subs.drop (k+1):=List.drop_eq_getElem_cons hlt▸by rw[(lGs ha).2]
   obtain⟨ar,as',am,au,an,asb⟩:=a;obtain⟨tl',xl',tr',xr',op',fn',ta',xa',tb',xb',v',un',tu',xu',ts2,xs2,rfl,_,e1',i1',e2',i2',hy',hz',e3',i3'⟩:=hz.mk;by_cases hka:k<(addU rule mn).length
   ·have dk:decide ((((addU rule mn).length:Nat):Int)<=(k:Int))=false:=dEf (by omega);simp only[go_sem,zE,zB,zA,zM,zS,zL,reduceCtorEq,f3,f4,f5,f8,f9,f10,f12,f59,f60,f61,lt_i hlt,hlt,hgb,hzr.1,hzr.2,yQ2 eA,iNn,fits,iA.len,dk];obtain⟨w,hw⟩:=yQ3 hka;obtain⟨yw,hkw,hyw⟩:=iA.get hw;have hdw:(addU rule mn).drop k=w::(addU rule mn).drop (k+1):=List.drop_eq_getElem_cons hka▸by rw[(lGs hw).2]
    rw[hdr,hdw,yJa] at hgo;obtain⟨tw,xw,tw',xw',rfl,ew,iw,ew',iw'⟩:=hyw;have hm1:=λst=>xUm gl w.l tw xw ew iw as'.l tl' xl' e1' i1' st;have hm2:=λst=>xUm gl w.r tw' xw' ew' iw' as'.r tr' xr' e2' i2' st;have hln1:(yX0 as'.l w.l).length<=as'.l.length:=List.length_filter_le ..;have hln2:(yX0 as'.r w.r).length<=as'.r.length:=List.length_filter_le ..;replace hqa:as'.l.length+as'.r.length<=1000:=hqa;have hcl:=xQ8 gl as' w (.agg [.sl tl' xl',.sl tr' xr']) (.agg [.sl tw xw,.sl tw' xw']) ⟨_,_,_,_,rfl,e1',i1',e2',i2'⟩ ⟨_,_,_,_,rfl,ew,iw,ew',iw'⟩ st st1 b gL gR q.l q.r hN (by omega);have hnext:∀(st2:ISt) gL gR,NeedO st st2 b gL gR (q.l++yX0 as'.l w.l) (q.r++yX0 as'.r w.r)->zXj rule s mn subs=yJa (λq=>.mk rule ⟨yZn s.l q.l,yZn s.r q.r⟩ mn tm0 bE subs) ((addU rule mn).drop (k+1)) (subs.drop (k+1)) (zXa q as' w) →
      ∃gL gR q,NeedO st st2 b gL gR q.l q.r/\zXj rule s mn subs=yJa (λq=>.mk rule ⟨yZn s.l q.l,yZn s.r q.r⟩ mn tm0 bE subs) ((addU rule mn).drop (k+1)) (subs.drop (k+1)) q/\q.l.length+q.r.length<=2+1000*(k+1):=λst2 gL gR h1 h2=>⟨gL,gR,zXa q as' w,h1,h2,by simp only[zXa,lLa];omega⟩
    simp only[go_sem,zE,zB,zA,zM,zS,zL,reduceCtorEq,hkw,fits];refine (hm1 _).mono ?_;rintro _ st1 ⟨rfl,rfl⟩;cases hb1:yXn w.l as'.l
    ·simp only[go_sem,zE,zB,zA,zM,zS,zL,reduceCtorEq,f3,f4,f5,f8,f9,f10,f12,f59,f60,f61,hkw,yQ2 eA,iNn,fits];refine (hm2 _).mono ?_;rintro _ st1 ⟨rfl,rfl⟩;cases hb2:yXn w.r as'.r
     ·simp only[go_sem,zE,zB,zA,zM,zS,zL,reduceCtorEq,f3,f4,f5,f8,f9,f10,f12,f59,f60,f61,fits];rw[if_pos (by decide)];refine yQb (hN.sub hb) ⟨.inl ⟨?_,hzdr⟩,rfl⟩;rw[hgo,if_pos (by show (!yXn w.l as'.l&&!yXn w.r as'.r)=true;rw[hb1,hb2];rfl)];exact hz0
     ·rw[if_neg (by show ¬ (!yXn w.l as'.l&&!yXn w.r as'.r)=true;rw[hb1,hb2];decide)] at hgo;simp only[go_sem,zE,zB,zA,zM,zS,zL,reduceCtorEq,f3,f4,f5,f8,f9,f10,f12,f59,f60,f61,hkw,yQ2 eA,iNn,fits];refine hcl.mono ?_;rintro _ st2 ⟨rfl,gL2,gR2,hN2⟩;simp only[go_sem,zE,zB,zA,zM,zS,zL,reduceCtorEq,f3,f4,f5,f8,f9,f10,f12,f59,f60,f61,yQa hlt (show subs.length<=281474976710656 by omega)];exact hnext st2 gL2 gR2 hN2 hgo
    ·rw[if_neg (by show ¬ (!yXn w.l as'.l&&!yXn w.r as'.r)=true;rw[hb1];simp)] at hgo;simp only[go_sem,zE,zB,zA,zM,zS,zL,reduceCtorEq,f3,f4,f5,f8,f9,f10,f12,f59,f60,f61,hkw,yQ2 eA,iNn,fits];refine hcl.mono ?_;rintro _ st2 ⟨rfl,gL2,gR2,hN2⟩;simp only[go_sem,zE,zB,zA,zM,zS,zL,reduceCtorEq,f3,f4,f5,f8,f9,f10,f12,f59,f60,f61,yQa hlt (show subs.length<=281474976710656 by omega)];exact hnext st2 gL2 gR2 hN2 hgo
   ·have dk:decide ((((addU rule mn).length:Nat):Int)<=(k:Int))=true:=dEt (by omega);simp only[go_sem,zE,zB,zA,zM,zS,zL,reduceCtorEq,f3,f4,f5,f8,f9,f10,f12,f59,f60,f61,lt_i hlt,hlt,hgb,hzr.1,hzr.2,yQ2 eA,iNn,fits,iA.len,dk];rw[if_pos (by decide)];rw[hdr,List.drop_eq_nil_of_le (by omega),yJa] at hgo;exact yQb (hN.sub hb) ⟨.inl ⟨by rw[hgo];exact hz0,hzdr⟩,rfl⟩
  ·rintro fr st1 _ ⟨⟨gL,gR,q,hN,hgo,hql⟩,f3,f4,f5,f8,f9,f10,f12,f59,f60,f61,rfl⟩;rw[List.drop_length] at hgo;simp only[go_sem,zE,zB,zA,zM,zS,zL,reduceCtorEq,f3,f4,f5,f8,f9,f10,f60,f61,yQk (nLi _)];rw[yKg];have hsubN:=hN.sub hb;obtain⟨hLn,hRn⟩:=hN.off;obtain⟨yl,yr,zl,zr,hbx,hsL,izl,hsR,izr,k1,k2,k3⟩:=hN;obtain⟨S,hS⟩:∃S:Array Bool->ISt,S=λl=>SU st1 (!q.l.isEmpty) (!q.r.isEmpty) gL gR (l.getD 7 false) (l.getD 13 false):=⟨_,rfl⟩
   have hSb:∀l,S l b=some (.box [yl,yr]):=λl=>by rw[hS];exact (vW5 (λh=>(k1 h).1.symm) (λh=>(k2 h).symm)).trans hbx
   have kk:∀ {K:Kt} {ad:Ad} {fr:Fr} {l:Array Bool} {i:Nat},K ad fr (S (l.setIfInBounds i true)) []->(decide (i=7) || decide (i=13))=false->K ad fr (S l) []:=λh hi=>by
    simp only[Bool.or_eq_false_iff,decide_eq_false_iff_not] at hi;rw[hS] at h ⊢;simp only[getD_set_ne false hi.1,getD_set_ne false hi.2] at h;exact h
   have hst1:st1=S (Array.replicate 21 false):=by rw[hS];simp only[yXw];exact SU_ff.symm
   rw[hst1];refine anyT (n:=20) (S:=S) (Rel:=λi z=>match i with
    | 0=>z=.cptr (.raw (.int .u8 rule))
    | 1=>z=.raw (.int .u8 rule)
    | 2=>z=.cptr (.agg [.sl tl xl,.sl tr xr])
    | 3=>z=.cptr (.sl tl xl)
    | 4=>z=.sl tl xl
    | 5=>z=.raw (.pointer (some ⟨b,0,none⟩))
    | 6=>z=yl
    | 7=>∃t ys,z=.sl t ys/\okEs t 4/\appT (yZn s.l q.l).length t/\IsFmsD (yZn s.l q.l) ys
    | 8=>z=.cptr (.agg [.sl tl xl,.sl tr xr])
    | 9=>z=.cptr (.sl tr xr)
    | 10=>z=.sl tr xr
    | 11=>z=.raw (.pointer (some ⟨b,1,none⟩))
    | 12=>z=yr
    | 13=>∃t ys,z=.sl t ys/\okEs t 4/\appT (yZn s.r q.r).length t/\IsFmsD (yZn s.r q.r) ys
    | 14=>∃t ys t' ys',z=.agg [.sl t ys,.sl t' ys']/\okEs t 4/\(appT (yZn s.l q.l).length t/\IsFmsD (yZn s.l q.l) ys)/\okEs t' 4/\appT (yZn s.r q.r).length t'/\IsFmsD (yZn s.r q.r) ys'
    | 15=>z=.cptr (.agg [.raw (.int .u8 op),.raw (.string fn),.sl ta xa,.sl tb xb])
    | 16=>z=.agg [.raw (.int .u8 op),.raw (.string fn),.sl ta xa,.sl tb xb]
    | 17=>IsFmD mn z
    | 18=>z=.raw (.slice (some ⟨g,0,none⟩) subs.length subs.length)
    | 19=>UsP rule ⟨yZn s.l q.l,yZn s.r q.r⟩ mn (.raw (.slice (some ⟨g,0,none⟩) subs.length subs.length)) z
    | _=>True)
    (F:=λfr=>fr 3=.iv (.raw (.slice (some ⟨g,0,none⟩) subs.length subs.length))/\fr 5=.iv (.cptr (.agg [.raw (.int .u8 rule),.sl tl xl,.sl tr xr,.raw (.int .u8 op),.raw (.string fn),.sl ta xa,.sl tb xb,.raw (.bool v),.raw (.string un),.sl tu xu,.raw (.string nm),.sl ts xs]))/\fr 8=.box trZ/\fr 9=.iv (ptrI b)) (G:=λfr=>∃l,UsP rule ⟨yZn s.l q.l,yZn s.r q.r⟩ mn (.raw (.slice (some ⟨g,0,none⟩) subs.length subs.length)) (.agg l)/\fr 8=.box l)
    ⟨rfl,by decide,by decide,by decide,λfr d z hd ⟨h3,h5,h8,h9⟩=>⟨(zU8 hd rfl).trans h3,(zU8 hd rfl).trans h5,(zU8 hd rfl).trans h8,(zU8 hd rfl).trans h9⟩⟩ ?_ ?_ (λ_=>rfl) ⟨f3,f5,f8,f9⟩
   ·repeat' apply AllOkS.cons
    ·intro listed ad fr K hz hfl had hF hd hK hS2;obtain⟨f3,f5,f8,f9⟩:=hF;simp only[go_sem,zE,zB,zA,zM,zS,zL,reduceCtorEq,yQ5,had,f3,f5,f8,f9];exact kk (hK _ _ rfl (λh=>absurd h (by decide)) rfl) rfl
    ·intro listed ad fr K hz hfl had hF hd hK hS2;obtain⟨f3,f5,f8,f9⟩:=hF;obtain⟨_,g0,rfl⟩:=hd 0 _ rfl rfl;simp only[go_sem,zE,zB,zA,zM,zS,zL,reduceCtorEq,yQ5,had,f3,f5,f8,f9,g0];exact kk (hK _ _ rfl (λh=>absurd h (by decide)) rfl) rfl
    ·intro listed ad fr K hz hfl had hF hd hK hS2;obtain⟨f3,f5,f8,f9⟩:=hF;simp only[go_sem,zE,zB,zA,zM,zS,zL,reduceCtorEq,yQ5,had,f3,f5,f8,f9];exact kk (hK _ _ rfl (λh=>absurd h (by decide)) rfl) rfl
    ·intro listed ad fr K hz hfl had hF hd hK hS2;obtain⟨f3,f5,f8,f9⟩:=hF;obtain⟨_,g2,rfl⟩:=hd 2 _ rfl rfl;simp only[go_sem,zE,zB,zA,zM,zS,zL,reduceCtorEq,yQ5,had,f3,f5,f8,f9,g2];exact kk (hK _ _ rfl (λh=>absurd h (by decide)) rfl) rfl
    ·intro listed ad fr K hz hfl had hF hd hK hS2;obtain⟨f3,f5,f8,f9⟩:=hF;obtain⟨_,g3,rfl⟩:=hd 3 _ rfl rfl;simp only[go_sem,zE,zB,zA,zM,zS,zL,reduceCtorEq,yQ5,had,f3,f5,f8,f9,g3];exact kk (hK _ _ rfl (λh=>absurd h (by decide)) rfl) rfl
    ·intro listed ad fr K hz hfl had hF hd hK hS2;obtain⟨f3,f5,f8,f9⟩:=hF;unfold ptrI at f9;simp only[go_sem,zE,zB,zA,zM,zS,zL,reduceCtorEq,yQ5,had,f3,f5,f8,f9];exact kk (hK _ _ rfl (λh=>absurd h (by decide)) rfl) rfl
    ·intro listed ad fr K hz hfl had hF hd hK hS2;obtain⟨f3,f5,f8,f9⟩:=hF;obtain⟨_,g5,rfl⟩:=hd 5 _ rfl rfl;simp only[go_sem,zE,zB,zA,zM,zS,zL,reduceCtorEq,yQ5,had,f3,f5,f8,f9,g5,hSb];exact kk (hK _ _ rfl (λh=>absurd h (by decide)) rfl) rfl
    ·intro listed ad fr K hz hfl had hF hd hK hS2;obtain⟨f3,f5,f8,f9⟩:=hF;obtain⟨_,g4,rfl⟩:=hd 4 _ rfl rfl;obtain⟨_,g6,rfl⟩:=hd 6 _ rfl rfl;rcases hsL with⟨hn0,hcz,fz,ez,rfl⟩|⟨hn0,cap0,cs0,rfl,hg0,hkc0,hcc0,htk0,hgn0⟩
     ·have hq0:q.l=[]:=List.length_eq_zero_iff.1 hn0;have hz0:zl=[]:=List.length_eq_zero_iff.1 (by rw[izl.len];exact hn0);subst hz0;simp only[go_sem,zE,zB,zA,zM,zS,zL,reduceCtorEq,yQ5,had,f3,f5,f8,f9,g4,g6,fits];refine (xK2 gl s.l tl xl e1 i1 q.l ⟨fz,.nil,ez⟩ [] (.inl rfl) izl (by omega) _).mono ?_;rintro _ _ ⟨⟨t5,y5,rfl,e5,i5⟩,rfl⟩;have hKK:=hK _ (.sl t5 y5) rfl (λh=>absurd h (by decide)) ⟨_,_,rfl,e5,i5⟩;have hE:S (listed.setIfInBounds 7 true)=S listed:=by
       rw[hS];simp only[getD_set_ne false (show 7≠13 by decide),hq0,List.isEmpty_nil,Bool.not_true];rw[vW7,vW7 (a:=listed.getD 7 false)]
      rw[<- hE];exact hKK
     ·have hq0:q.l≠[]:=λh=>by rw[h] at hn0;exact absurd hn0 (by decide)
      have hqe:(!q.l.isEmpty)=true:=by simpa using hq0
      have hSg:S listed gL=some (.box cs0):=by
       rw[hS];simp only[hfl];exact (SU_L (λh=>(k1 hq0).2 h)).trans hg0
      have hE:(S listed).put gL none=S (listed.setIfInBounds 7 true):=by
       rw[hS];simp only[getD_set_ne false (show 7≠13 by decide),yQo (show 7<listed.size by rw[hz];decide),if_true,hfl,hqe];exact kQz
      simp only[go_sem,zE,zB,zA,zM,zS,zL,reduceCtorEq,yQ5,had,f3,f5,f8,f9,g4,g6,fits];refine ICall.frzSl (pre:=[_]) (es:=4) (zs:=zl) hSg izl.len hkc0 hcc0 (zUx izl) htk0 (by omega) ?_;rw[hE];refine (xK2 gl s.l tl xl e1 i1 q.l _ _ (.inr rfl) izl.aged (by omega) _).mono ?_;rintro _ _ ⟨⟨t5,y5,rfl,e5,i5⟩,rfl⟩;exact hK _ (.sl t5 y5) rfl (λh=>absurd h (by decide)) ⟨_,_,rfl,e5,i5⟩
    ·intro listed ad fr K hz hfl had hF hd hK hS2;obtain⟨f3,f5,f8,f9⟩:=hF;simp only[go_sem,zE,zB,zA,zM,zS,zL,reduceCtorEq,yQ5,had,f3,f5,f8,f9];exact kk (hK _ _ rfl (λh=>absurd h (by decide)) rfl) rfl
    ·intro listed ad fr K hz hfl had hF hd hK hS2;obtain⟨f3,f5,f8,f9⟩:=hF;obtain⟨_,g8,rfl⟩:=hd 8 _ rfl rfl;simp only[go_sem,zE,zB,zA,zM,zS,zL,reduceCtorEq,yQ5,had,f3,f5,f8,f9,g8];exact kk (hK _ _ rfl (λh=>absurd h (by decide)) rfl) rfl
    ·intro listed ad fr K hz hfl had hF hd hK hS2;obtain⟨f3,f5,f8,f9⟩:=hF;obtain⟨_,g9,rfl⟩:=hd 9 _ rfl rfl;simp only[go_sem,zE,zB,zA,zM,zS,zL,reduceCtorEq,yQ5,had,f3,f5,f8,f9,g9];exact kk (hK _ _ rfl (λh=>absurd h (by decide)) rfl) rfl
    ·intro listed ad fr K hz hfl had hF hd hK hS2;obtain⟨f3,f5,f8,f9⟩:=hF;unfold ptrI at f9;simp only[go_sem,zE,zB,zA,zM,zS,zL,reduceCtorEq,yQ5,had,f3,f5,f8,f9];exact kk (hK _ _ rfl (λh=>absurd h (by decide)) rfl) rfl
    ·intro listed ad fr K hz hfl had hF hd hK hS2;obtain⟨f3,f5,f8,f9⟩:=hF;obtain⟨_,g11,rfl⟩:=hd 11 _ rfl rfl;simp only[go_sem,zE,zB,zA,zM,zS,zL,reduceCtorEq,yQ5,had,f3,f5,f8,f9,g11,hSb];exact kk (hK _ _ rfl (λh=>absurd h (by decide)) rfl) rfl
    ·intro listed ad fr K hz hfl had hF hd hK hS2;obtain⟨f3,f5,f8,f9⟩:=hF;obtain⟨_,g10,rfl⟩:=hd 10 _ rfl rfl;obtain⟨_,g12,rfl⟩:=hd 12 _ rfl rfl;rcases hsR with⟨hn0,hcz,fz,ez,rfl⟩|⟨hn0,cap0,cs0,rfl,hg0,hkc0,hcc0,htk0,hgn0⟩
     ·have hq0:q.r=[]:=List.length_eq_zero_iff.1 hn0;have hz0:zr=[]:=List.length_eq_zero_iff.1 (by rw[izr.len];exact hn0);subst hz0;simp only[go_sem,zE,zB,zA,zM,zS,zL,reduceCtorEq,yQ5,had,f3,f5,f8,f9,g10,g12,fits];refine (xK2 gl s.r tr xr e2 i2 q.r ⟨fz,.nil,ez⟩ [] (.inl rfl) izr (by omega) _).mono ?_;rintro _ _ ⟨⟨t5,y5,rfl,e5,i5⟩,rfl⟩;have hKK:=hK _ (.sl t5 y5) rfl (λh=>absurd h (by decide)) ⟨_,_,rfl,e5,i5⟩;have hE:S (listed.setIfInBounds 13 true)=S listed:=by
       rw[hS];simp only[getD_set_ne false (show 13≠7 by decide),hq0,List.isEmpty_nil,Bool.not_true];rw[vW6,vW6 (b:=listed.getD 13 false)]
      rw[<- hE];exact hKK
     ·have hq0:q.r≠[]:=λh=>by rw[h] at hn0;exact absurd hn0 (by decide)
      have hqe:(!q.r.isEmpty)=true:=by simpa using hq0
      have hSg:S listed gR=some (.box cs0):=by
       rw[hS];simp only[hfl];exact (SU_R (λh=>((k1 h).2 hq0).symm)).trans hg0
      have hE:(S listed).put gR none=S (listed.setIfInBounds 13 true):=by
       rw[hS];simp only[getD_set_ne false (show 13≠7 by decide),yQo (show 13<listed.size by rw[hz];decide),if_true,hfl,hqe];exact kQy
      simp only[go_sem,zE,zB,zA,zM,zS,zL,reduceCtorEq,yQ5,had,f3,f5,f8,f9,g10,g12,fits];refine ICall.frzSl (pre:=[_]) (es:=4) (zs:=zr) hSg izr.len hkc0 hcc0 (zUx izr) htk0 (by omega) ?_;rw[hE];refine (xK2 gl s.r tr xr e2 i2 q.r _ _ (.inr rfl) izr.aged (by omega) _).mono ?_;rintro _ _ ⟨⟨t5,y5,rfl,e5,i5⟩,rfl⟩;exact hK _ (.sl t5 y5) rfl (λh=>absurd h (by decide)) ⟨_,_,rfl,e5,i5⟩
    ·intro listed ad fr K hz hfl had hF hd hK hS2;obtain⟨f3,f5,f8,f9⟩:=hF;obtain⟨z7,g7,k7⟩:=hd 7 _ rfl rfl;obtain⟨t5,y5,rfl,k5,k6⟩:=k7;obtain⟨z13,g13,k13⟩:=hd 13 _ rfl rfl;obtain⟨t6,y6,rfl,k7',k8⟩:=k13;simp only[go_sem,zE,zB,zA,zM,zS,zL,reduceCtorEq,yQ5,had,f3,f5,f8,f9,g7,g13,fits];exact kk (hK _ _ rfl (λh=>absurd h (by decide)) ⟨_,_,_,_,rfl,k5,k6,k7',k8⟩) rfl
    ·intro listed ad fr K hz hfl had hF hd hK hS2;obtain⟨f3,f5,f8,f9⟩:=hF;simp only[go_sem,zE,zB,zA,zM,zS,zL,reduceCtorEq,yQ5,had,f3,f5,f8,f9];exact kk (hK _ _ rfl (λh=>absurd h (by decide)) rfl) rfl
    ·intro listed ad fr K hz hfl had hF hd hK hS2;obtain⟨f3,f5,f8,f9⟩:=hF;obtain⟨_,g15,rfl⟩:=hd 15 _ rfl rfl;simp only[go_sem,zE,zB,zA,zM,zS,zL,reduceCtorEq,yQ5,had,f3,f5,f8,f9,g15,fits];exact kk (hK _ _ rfl (λh=>absurd h (by decide)) rfl) rfl
    ·intro listed ad fr K hz hfl had hF hd hK hS2;obtain⟨f3,f5,f8,f9⟩:=hF;obtain⟨_,g16,rfl⟩:=hd 16 _ rfl rfl;simp only[go_sem,zE,zB,zA,zM,zS,zL,reduceCtorEq,yQ5,had,f3,f5,f8,f9,g16];refine (hcopy _).mono ?_;rintro r _ ⟨hr,rfl⟩;exact kk (hK _ _ rfl (λh=>absurd h (by decide)) hr) rfl
    ·intro listed ad fr K hz hfl had hF hd hK hS2;obtain⟨f3,f5,f8,f9⟩:=hF;simp only[go_sem,zE,zB,zA,zM,zS,zL,reduceCtorEq,yQ5,had,f3,f5,f8,f9];exact kk (hK _ _ rfl (λh=>absurd h (by decide)) rfl) rfl
    ·intro listed ad fr K hz hfl had hF hd hK hS2;obtain⟨f3,f5,f8,f9⟩:=hF;obtain⟨_,g1,rfl⟩:=hd 1 _ rfl rfl;obtain⟨z14,g14,k14⟩:=hd 14 _ rfl rfl;obtain⟨t5,y5,t6,y6,rfl,k5,k6,k7',k8⟩:=k14;obtain⟨z17,g17,k17⟩:=hd 17 _ rfl rfl;obtain⟨_,g18,rfl⟩:=hd 18 _ rfl rfl;replace k17:IsFmD mn z17:=k17;obtain⟨o2,n2,t2,x2,t3,x3,rfl⟩:=k17.1.agg;simp only[go_sem,zE,zB,zA,zM,zS,zL,reduceCtorEq,yQ5,had,f3,f5,f8,f9,g1,g14,g17,g18,fits];exact kk (hK _ _ rfl (λh=>absurd h (by decide)) ⟨_,_,_,_,_,_,_,_,_,_,rfl,wWe (s:=⟨yZn s.l q.l,yZn s.r q.r⟩) hru k5 k6.1 k6.2 k7' k8.1 k8.2 k17⟩) rfl
    ·intro listed ad fr K hz hfl had hF hd hK hS2;obtain⟨f3,f5,f8,f9⟩:=hF;obtain⟨z19,g19,k19⟩:=hd 19 _ rfl rfl;obtain⟨tl9,xl9,tr9,xr9,op9,fn9,ta9,xa9,tb9,xb9,rfl,k20⟩:=k19;simp only[go_sem,zE,zB,zA,zM,zS,zL,reduceCtorEq,yQ5,had,f3,f5,f8,f9,g19,fits,trZ,IV.one];exact kk (hS2 _ rfl rfl ⟨_,by exact⟨_,_,_,_,_,_,_,_,_,_,rfl,k20⟩,rfl⟩ (λ_=>wWd rfl)) rfl
    ·exact trivial
   ·rintro fr ⟨l,hl,h8⟩ hall;have hl0:=hl;obtain⟨tl9,xl9,tr9,xr9,op9,fn9,ta9,xa9,tb9,xb9,he9,k20⟩:=hl;obtain rfl:=IV.agg.inj he9;simp only[go_sem,zE,zB,zA,zM,zS,zL,reduceCtorEq,h8];refine yQb (λc o hc=>?_) ⟨.inr ⟨_,by rw[hgo,zKv],hl0⟩,rfl⟩;rw[hS];exact (vW5 (λh h'=>by rw[h',hLn h] at hc;cases hc) (λh h'=>by rw[h',hRn h] at hc;cases hc)).trans (hsubN c o hc)
mutual
noncomputable def yVq:Tr->Tr
 | .mk rule s m _ _ sub=>zXj rule s m (yZr sub)
noncomputable def yZr:List Tr->List Tr
 | []=>[]
 | a::l=>yVq a::yZr l
end
theorem yK5:∀l:List Tr,(yZr l).length=l.length
 | []=>rfl
 | a::l=>by simp only[yZr,List.length_cons,yK5 l]
theorem zKu:∀l m:List Tr,yZr (l++m)=yZr l++yZr m
 | [],m=>rfl
 | a::l,m=>by simp only[List.cons_append,yZr,zKu l m]
theorem yGp {P:Tr->Prop}{fin:Sq->Tr}(hf:∀q,P (fin q)):∀ {al:List Sq} {ss:List Tr} {q:Sq},(∀s∈ss,P s)->P (yJa fin al ss q)
 | al,[],q,_=>by rw[zKv];exact hf q
 | [],s::_,q,h=>h s (by simp)
 | a::al,s::ss,q,h=>by
  rw[yJa];split
  ·exact h s (by simp)
  ·exact yGp hf λx hx=>h x (by simp[hx])
theorem zVc {l b:List Fm}:yQ7 (yZn l b)<=yQ7 l:=by
 have:=(yW0 (need:=b) (l:=l) (r:=[])).1;simp only[yQ7] at this;unfold yZn;omega
mutual
theorem xJ5:∀ {t:Tr},smT t=true->smT (yVq t)=true
 | .mk rule s m u n sub,h=>by
  obtain⟨h1,h2,h3,h4⟩:=zQx h;have hs:=zXi h4;rw[yVq,zXj];refine yGp (P:=λt=>smT t=true) (λq=>?_) (λa ha=>yG2 hs ha);have:=zVc (l:=s.l) (b:=q.l);have:=zVc (l:=s.r) (b:=q.r);simp only[smT,hs,Bool.and_true,bAt,dTe];exact⟨⟨by omega,h2⟩,by decide⟩
theorem zXi:∀ {l:List Tr},smTs l=true->smTs (yZr l)=true
 | [],_=>rfl
 | b::l,h=>by
  simp only[smTs,bAt] at h;simp only[yZr,smTs,xJ5 h.1,zXi h.2,Bool.and_self]
end
def wV5 (t:Tr):Prop:=∀(x:IV) (_:IsTr t x) (_:t.steps<=300) (_:smT t=true) (st:ISt) (m:Nat) (es:List (Value×IV)) (_:st m=some (.map (.int .u8) es)) (_:zW1 es),
 ICall prog gl 83 [x,.agg [],.fn (.func 77) [.agg [.raw (.map (some m))]] [],.fn (.func 84) [.agg [.raw (.map (some m))]] []] st
  (λr st'=>(IsTr (yVq t) r/\dfr r)/\st'=st)
theorem xVn (G:Gl gl)(rule:Nat)(s:Sq)(mn:Fm)(u:Tm)(nm:ByteArray)(sub:List Tr)(IH:∀a∈sub,wV5 gl a):wV5 gl (.mk rule s mn u nm sub):=by
 intro x hx hst hw st m es hm hl;obtain⟨tl,xl,tr,xr,op,fn,ta,xa,tb,xb,v,un,tu,xu,ts,xs,rfl,hru,e1,i1,e2,i2,hy,hz,e3,i3⟩:=hx.mk;obtain⟨hw1,hw2,hw3,hw4⟩:=zQx hw;refine ICall.fixA ?_;refine ICall.intro (c:=cf prog gl [23] []) func83 rfl (by show _<=48;simp) (by kernel_rfl) ?_;simp only[go_sem,zE,zB,zA,zM,zS,zL,reduceCtorEq,fits];refine (wZz gl _ m rfl _ _ hx (by show sub.length<=_;simp only[Tr.steps] at hst;have:=yZ7 sub;omega) _).mono ?_;rintro _ st ⟨ts',xs',rfl,e3',i3',rfl⟩;have hln:=i3'.len;have hls:sub.length<=300:=by rw[Tr.steps] at hst;have:=yZ7 sub;omega
 change xs'.length=sub.length at hln;simp only[go_sem,zE,zB,zA,zM,zS,zL,reduceCtorEq,fits];intro _;refine yZg ⟨by omega,by omega,by omega⟩ λg=>yQf λhg=>?_;have hgm:g≠m:=λh=>by rw[h,hm] at hg;cases hg
 intro _;refine LoopC.ctr sub.length (λk fr st' ds=>(∃cs zs,st'=st.put g (some (.box cs))/\cs.length=sub.length*12/\cs.take (k*12)=zs.flatMap IV.cells/\IsTrs (yZr (sub.take k)) zs/\dfrs zs) /\
  fr 2=.iv (.fn (.func 77) [.agg [.raw (.map (some m))]] [])/\fr 3=.iv (.fn (.func 84) [.agg [.raw (.map (some m))]] [])/\fr 4=.box [.raw (.int .u8 rule),.sl tl xl,.sl tr xr,.raw (.int .u8 op),.raw (.string fn),.sl ta xa,.sl tb xb,.raw (.bool v),.raw (.string un),.sl tu xu,.raw (.string nm),.sl ts xs]/\fr 5=.box []/\fr 8=.box trZ /\
  fr 10=.iv (.sl ⟨false,.none,0⟩ (List.replicate sub.length (.agg [])))/\fr 11=.iv (.raw (.slice (some ⟨g,0,none⟩) sub.length sub.length))/\fr 24=.iv (.sl ts' xs')/\fr 25=.iv (.raw (.int .i64 sub.length))/\fr 26=.iv (.raw (.int .i64 k))/\ds=[]) ?_ ?_ ?_
 ·simp only[go_sem,zE,zB,zA,zM,zS,zL,reduceCtorEq,hln];exact⟨⟨_,[],rfl,by simp,rfl,rfl,trivial⟩,rfl,rfl,rfl⟩
 ·rintro k fr _ _ hlt ⟨⟨cs,zs,rfl,hcl,hct,hzs,hzd⟩,f2,f3,f4,f5,f8,f10,f11,f24,f25,f26,rfl⟩;obtain⟨a,ha⟩:=yQ3 hlt;obtain⟨z,hkz,hz⟩:=i3'.get ha;have ham:=lMg ha;have hsta:=yU7 ham;simp only[Tr.steps] at hst;have hcall:=λst1 hm=>IH a ham z hz (by omega) (yG2 hw4 ham) st1 m es hm hl;have hrep:(List.replicate sub.length (IV.agg []))[k]?=some (.agg []):=by rw[List.getElem?_replicate,if_pos hlt]
  obtain⟨rule',tl',xl',tr',xr',op',fn',ta',xa',tb',xb',v',un',tu',xu',n',ts2,xs2,rfl⟩:=yX4 hz;simp only[go_sem,zE,zB,zA,zM,zS,zL,reduceCtorEq,f2,f3,f4,f5,f8,f10,f11,f24,f25,f26,lt_i hlt,yQ2 e3',iNn,hkz,fits,hrep];refine (hcall _ (by rw[yQ9 hgm.symm];exact hm)).mono ?_;rintro r _ ⟨⟨hr,hrd⟩,rfl⟩;have hr0:=hr;obtain⟨rule9,tl9,xl9,tr9,xr9,op9,fn9,ta9,xa9,tb9,xb9,v9,un9,tu9,xu9,n9,ts9,xs9,rfl⟩:=yX4 hr;simp only[go_sem,zE,zB,zA,zM,zS,zL,reduceCtorEq,f2,f3,f4,f5,f8,f10,f11,f24,f25,f26,fits,ISt.put_same,yQh,yQa hlt (show sub.length<=281474976710656 by omega)];have hkn:k*12+12<=sub.length*12:=by omega
  obtain⟨q1,q2⟩:=yGs (new:=[IV.raw (.int .u8 rule9),.sl tl9 xl9,.sl tr9 xr9,.raw (.int .u8 op9),.raw (.string fn9),.sl ta9 xa9,.sl tb9 xb9,.raw (.bool v9),.raw (.string un9),.sl tu9 xu9,.raw (.string n9),.sl ts9 xs9]) hcl hlt rfl;rw[if_pos ⟨by omega,hlt⟩,if_pos (by omega)];refine⟨_,zs++[.agg [.raw (.int .u8 rule9),.sl tl9 xl9,.sl tr9 xr9,.raw (.int .u8 op9),.raw (.string fn9),.sl ta9 xa9,.sl tb9 xb9,.raw (.bool v9),.raw (.string un9),.sl tu9 xu9,.raw (.string n9),.sl ts9 xs9]],rfl,q1,?_,?_,yJ3 hzd ⟨hrd,trivial⟩⟩
  ·rw[q2,hct,List.flatMap_append,List.flatMap_singleton];rfl
  ·rw[yQ8 ha,zKu];exact hzs.append ⟨_,_,rfl,hr0,rfl⟩
 ·rintro fr _ _ ⟨⟨cs,zs,rfl,hcl,hct,hzs,hzd⟩,f2,f3,f4,f5,f8,f10,f11,f24,f25,f26,rfl⟩;rw[lTl] at hzs;have hzl:zs.length=sub.length:=by rw[hzs.len,yK5]
  simp only[go_sem,zE,zB,zA,zM,zS,zL,reduceCtorEq,f2,f3,f4,f5,f8,f10,f11,f24,f25,f26,yQk (nLi _)];have hcs:cs=zs.flatMap IV.cells:=by rw[<- hct,List.take_of_length_le (by omega)]
  have hus:=zXi hw4;have hul:=yK5 sub;rw[<- hul];refine (vXj gl G _ m rfl rule s mn u nm sub _ hx (yZr sub) g cs zs hzs hzd hcs (by omega) (by omega) (by omega) (λa ha=>xGa (yG2 hus ha)) (by omega) _ es (by rw[yQ9 hgm.symm];exact hm) hl (ISt.put_same ..)).mono ?_;rintro r _ ⟨⟨hr,hrd⟩|⟨s',hus',tL,xL,tR,xR,o,n,t3,x3,t4,x4,rfl,hpre⟩,rfl⟩
  ·have hr0:=hr;obtain⟨rule9,tl9,xl9,tr9,xr9,op9,fn9,ta9,xa9,tb9,xb9,v9,un9,tu9,xu9,n9,ts9,xs9,rfl⟩:=yX4 hr;simp only[go_sem,zE,zB,zA,zM,zS,zL,reduceCtorEq,f8,trZ,fits];exact yQb (yQz hg) (.inl ⟨⟨by simpa only[yVq] using hr0,hrd⟩,rfl⟩)
  ·have hX:=hpre.1 (yZr sub) ⟨true,.app g,12⟩ zs (.inr rfl) hzs;simp only[go_sem,zE,zB,zA,zM,zS,zL,reduceCtorEq,f8,trZ,fits,IV.one];refine yQ0 (.inr ⟨[_,_,_,_,_,_,_,_,_,_,_],g,_,_,cs,12,zs,_,hg,hg,rfl,rfl,by rw[hzs.len],by omega,Nat.le_refl _,by omega,?_,yU5 hzs,⟨by rw[yVq,hus'];exact hX,?_⟩,rfl⟩)
   ·rw[<- hcs,List.take_of_length_le (by omega)]
   rw[dfr];refine⟨yJ3 hpre.2.1 ⟨?_,trivial⟩,λx hx=>?_⟩
   ·rw[dfr];refine⟨.inr ⟨by simp[wkE],rfl,g,rfl⟩,hzd,λx hx=>?_⟩;obtain⟨z,hz,hxz⟩:=List.mem_flatMap.1 hx;obtain⟨tr,htr⟩:=xQv hzs hz;obtain⟨rule',tl',xl',tr1',xr',op',fn',ta',xa',tb',xb',v',un',tu',xu',n',ts2,xs2,rfl⟩:=yX4 htr;simp only[IV.cells,List.mem_cons,List.not_mem_nil,or_false] at hxz;rcases hxz with rfl|rfl|rfl|rfl|rfl|rfl|rfl|rfl|rfl|rfl|rfl|rfl<;>rfl
   ·rcases List.mem_append.1 hx with hx|hx
    ·exact hpre.2.2 x hx
    ·rw[List.mem_singleton.1 hx];rfl
theorem zG3 (G:Gl gl):∀(k:Nat) (t:Tr),SizeOf.sizeOf t<k->wV5 gl t
 | 0,_,h=>absurd h (by omega)
 | k+1,.mk rule s mn u nm sub,h=>xVn gl G rule s mn u nm sub λa ha=>zG3 G k a (by have:=lSm ha;simp only[Tr.mk.sizeOf_spec] at h;omega)
theorem wYp (G:Gl gl)(t:Tr):wV5 gl t:=zG3 gl G _ t (Nat.lt_succ_self _)
noncomputable def yVf (t:Tr):Tr×Nat:=if (yXc 1 t).2≠0 then (tr0,231) else (yVq t,0)
theorem wYh (G:Gl gl)(t:Tr)(x:IV)(hx:IsTr t x)(hok:smT t=true)(hst:t.steps<=300)(st:ISt) :
  ICall prog gl 37 [x] st (λr st'=>(∃z,r=.tup [z,.raw (.int .i64 (yVf t).2)]/\IsTr (yVf t).1 z/\dfr z)/\st'=st):=by
 have hck:=λst=>wXb gl G 1 t x hx (wYk (zGo hok) (by omega)) st;have hx0:=hx;have z0:=zGg;have z1:=wG0;unfold trZ at z0 z1;obtain⟨rule,tl,xl,tr,xr,op,fn,ta,xa,tb,xb,v,un,tu,xu,nm,ts,xs,rfl⟩:=yX4 hx;have hne:∀n:Nat,((n:Int)=0)=(n=0):=λn=>propext (by omega);refine iI func37 ?_;simp only[go_sem,zE,zB,zA,zM,zS,zL,reduceCtorEq,fits];refine (hck _).mono ?_;rintro _ st ⟨⟨tg,rfl,htg⟩,rfl⟩;by_cases h0:(yXc 1 t).2=0
 ·simp only[go_sem,zE,zB,zA,zM,zS,zL,reduceCtorEq,fits,h0,decide_true,Bool.not_true,Int.natCast_zero];refine (zJ9 gl st).mono ?_;rintro _ _ ⟨m,es,hm,rfl,hl,rfl⟩;simp only[go_sem,zE,zB,zA,zM,zS,zL,reduceCtorEq,fits];refine (wYp gl G t _ hx0 hst hok _ m es (ISt.put_same ..) hl).mono ?_;rintro r _ ⟨⟨hr,hrd⟩,rfl⟩;have hr0:=hr;obtain⟨rule9,tl9,xl9,tr9,xr9,op9,fn9,ta9,xa9,tb9,xb9,v9,un9,tu9,xu9,n9,ts9,xs9,rfl⟩:=yX4 hr;simp only[go_sem,zE,zB,zA,zM,zS,zL,reduceCtorEq,fits];have he:yVf t=(yVq t,0):=by rw[yVf,if_neg (by rw[h0];decide)]
  exact yQb (yQz hm) ⟨⟨_,by rw[he];rfl,by rw[he];exact hr0,hrd⟩,rfl⟩
 ·simp only[go_sem,zE,zB,zA,zM,zS,zL,reduceCtorEq,fits,hne,h0,decide_false,Bool.not_false];have he:yVf t=(tr0,231):=by rw[yVf,if_pos h0]
  exact yQ0 ⟨⟨_,by rw[he];rfl,by rw[he];exact z0,z1⟩,rfl⟩
theorem wYi (G:Gl gl)(t:Tr)(x:IV)(hx:IsTr t x)(hok:smT t=true)(hst:t.steps<=300)(st:ISt) :
  ICall prog gl 37 [x] st (λr st'=>(∃z,r=.tup [z,.raw (.int .i64 (yVf t).2)]/\IsTr (yVf t).1 z)/\st'=st) :=
 (wYh gl G t x hx hok hst st).mono λ_ _ ⟨⟨z,h1,h2,_⟩,h3⟩=>⟨⟨z,h1,h2⟩,h3⟩
noncomputable def allT (l q:List Mk):Bool:=!q.any λm=>!hasT l m
theorem xY5 (l:List Mk)(tb:Nat)(x:IV)(hx:IsBr l tb x)(m:Mk)(y:IV)(hy:IsMk m y)(st:ISt):ICall prog gl 219 [y,.cptr (.cptr x)] st (λr st'=>r=.raw (.bool (!hasT l m))/\st'=st):=by
 have h1:=λst=>wZ8 gl l tb x hx m y hy st;obtain⟨_,_,_,_,_,_,rfl⟩:=hy.agg;refine iI func219 ?_;simp only[go_sem,zE,zA,zL,fits];refine (h1 _).mono ?_;rintro _ _ ⟨rfl,rfl⟩;simp only[go_sem];exact yQ0 ⟨rfl,rfl⟩
theorem wZ9 (l:List Mk)(tb:Nat)(x:IV)(hx:IsBr l tb x)(q:List Mk)(tg:Tag)(zs:List IV)(htg:okEs tg 6)(hzs:IsMks q zs)(st:ISt) :
  ICall prog gl 147 [.cptr x,.sl tg zs] st (λr st'=>r=.raw (.bool (allT l q))/\st'=st):=by
 have h1:=λst=>yU2 gl 219 [.cptr (.cptr x)] (by simp only[go_sem]) q (λa=>!hasT l a) st (λa _ y hy=>xY5 gl l tb x hx a y hy st) tg zs htg hzs;refine ICall.intro (c:=cf prog gl [] [] [2]) func147 rfl (by show _<=9;simp) (by kernel_rfl) ?_;simp only[go_sem,zE,zA];refine (h1 _).mono ?_;rintro _ _ ⟨rfl,rfl⟩;simp only[go_sem];exact yQ0 ⟨rfl,rfl⟩
def useI (x:IV)(k:Nat):List IV:=[.cptr (.cptr x),.cptr (.raw (.int .u8 k))]
theorem wXl (x:IV)(k:Nat)(hk:k<256)(st:ISt):ICall prog gl 146 [.cptr x,.raw (.int .u8 k)] st (λr st'=>r=.fn (.func 217) [] (useI x k)/\st'=st):=by
 refine ICall.intro (c:=cf prog gl [] [] [2,3]) func146 rfl (by show _<=6;simp) (by kernel_rfl) ?_;simp only[go_sem,zE];exact yQ0 ⟨rfl,rfl⟩
def yXy (l:List Mk)(k:Nat):List Mk:=l.filter λm=>decide ((yZd m).1=k)
def mkX (q:List Mk)(k:Nat)(a:List IV):Prop:=∃m y,q[k]?=some m/\IsMk m y/\a=[y]
theorem xYq (l:List Mk)(tb:Nat)(x:IV)(hx:IsBr l tb x)(hl:l.length<=1000000)(k:Nat)(hk:k<256)(es:List (Value×IV))(ht:zZn es) :
  IterC prog gl 217 [] (useI x k) (mkX (yXy l k)) (yXy l k).length (λ_ st=>st tb=some (.map .sg es)):=by
 rintro y I' S' st ⟨g,fi,ca,rfl,hfn,hent⟩ hI hy h0;change ICall prog gl _ [.fn g fi ca,_,_] st _;obtain⟨t,xs,t',v,rfl,ht6,hap,hxs,ht1,htc⟩:=hx;refine ICall.intro (c:=cf prog gl [] [(3,[0,1,2,3,4,5,8,6,7,9,10,11,12,13,14,15])]) func217 rfl (by show _<=32;simp) (by kernel_rfl) ?_;simp only[go_sem,fits,brI,hxs.len];intro _;refine LoopC.ctr l.length (λj fr st' ds=>I' (yXy (l.take j) k).length st'/\fr 0=.iv (.fn g fi ca)/\fr 1=.iv (.cptr (.cptr (.agg (brI tb t xs t' v))))/\fr 2=.iv (.cptr (.raw (.int .u8 k)))/\fr 9=.iv (.sl t xs)/\fr 10=.iv (.raw (.int .i64 l.length))/\fr 11=.iv (.raw (.int .i64 j))/\ds=[]) ?_ ?_ ?_
 ·simp only[go_sem,zE,reduceCtorEq];exact⟨h0,rfl,rfl⟩
 ·rintro j fr st1 _ hlt ⟨hIj,f0,f1,f2,f9,f10,f11,rfl⟩;obtain⟨stu0,hs0,hb0⟩:=hI _ st1 hIj;have hb:=hs0 _ _ hb0;obtain⟨a,ha⟩:=yQ3 hlt;obtain⟨z,hkz,hz⟩:=hxs.get ha;have hfind:=λst hb=>zXm gl a z hz st tb es hb ht;have hz0:=hz;obtain⟨o5,n5,t5,x5,t6,x6,rfl,h1⟩:=hz;simp only[go_sem,zE,zB,zA,zL,f1,f2,f9,f10,f11,lt_i hlt,yQ2 ht6,iNn,hkz,fits,brI];refine (hfind _ hb).mono ?_;rintro _ st1 ⟨rfl,rfl⟩;have hst:yXy (l.take (j+1)) k=yXy (l.take j) k++yXy [a] k:=by rw[yQ8 ha,yXy,List.filter_append];rfl
  by_cases hkd:(yZd a).1=k
  ·have dk:decide (((yZd a).1:Int)=(k:Int))=true:=dEt (by omega);have h1':yXy [a] k=[a]:=by simp[yXy,hkd]
   have hget:(yXy l k)[(yXy (l.take j) k).length]?=some a:=by
    have hsp:yXy l k=yXy (l.take (j+1)) k++yXy (l.drop (j+1)) k:=by
     conv=>lhs;rw[<- List.take_append_drop (j+1) l]
     rw[yXy,List.filter_append];rfl
    rw[hsp,hst,h1',List.append_assoc,List.getElem?_append_right (Nat.le_refl _),Nat.sub_self];rfl
   simp only[go_sem,zE,zA,zL,reduceCtorEq,rowF,dk,f0];refine yYu hent ((hy _ _ st1 ⟨a,_,hget,hz0,rfl⟩ hIj).mono ?_);rintro _ st2 (⟨rfl,h⟩|⟨rfl,h⟩)
   ·simp only[go_sem,zE,reduceCtorEq,f0,f1,f2,f9,f10,f11,yQa hlt (show l.length<=281474976710656 by omega)];exact⟨by rw[hst,h1',lLa];exact h,rfl⟩
   ·simp only[go_sem,zE];exact yQ0 (.inr h)
  ·have dk:decide (((yZd a).1:Int)=(k:Int))=false:=dEf (by omega);have h1':yXy [a] k=[]:=by simp[yXy,hkd]
   simp only[go_sem,zE,reduceCtorEq,rowF,dk,f0,f1,f2,f9,f10,f11,yQa hlt (show l.length<=281474976710656 by omega)];exact⟨by rw[hst,h1',List.append_nil];exact hIj,rfl⟩
 ·rintro fr st1 _ ⟨hIj,f0,f1,f2,f9,f10,f11,rfl⟩;rw[lTl] at hIj;simp only[go_sem,f10,f11,yQk (nLi _)];exact yQ0 (.inl hIj)
noncomputable def yGe (l:List Mk):Option (Mk×Bool) :=
 match l.find? (yKn l) with
 | some m=>some (m,true)
 | none=>match (yXy l 1).find? λm=>!allT l (((yQi m 0)[0]?).getD []) with
  | some m=>some (m,false)
  | none=>((yXy l 2).find? λm=>!(yQi m 0).any (allT l)).map λm=>(m,false)
def IsN0 (m:Mk)(c:Bool)(z:IV):Prop:=∃(o:Int) (n:ByteArray) (t:Tag) (xs:List IV) (t':Tag) (ys:List IV),z=.agg [.raw (.bool m.is),.raw (.int .i64 m.w),.raw (.int .u8 o),.raw (.string n),.sl t xs,.sl t' ys,.raw (.bool c),.raw (.int .i64 0),.sl ⟨true,.nil,0⟩ []]/\IsFm m.f (.agg [.raw (.int .u8 o),.raw (.string n),.sl t xs,.sl t' ys])
theorem xX9 {p:Mk->Bool}{l:List Mk}{k:Nat}{a:Mk}(ha:l[k]?=some a)(h:(l.take k).find? p=none)(hp:p a=false):(l.take (k+1)).find? p=none:=by
 rw[yQ8 ha,List.find?_append,h,Option.none_or];simp[hp]
theorem zYf {p:Mk->Bool}{l:List Mk}{k:Nat}{a:Mk}(ha:l[k]?=some a)(h:(l.take k).find? p=none)(hp:p a=true):l.find? p=some a:=by
 conv=>lhs;rw[<- List.take_append_drop (k+1) l]
 rw[List.find?_append,yQ8 ha,List.find?_append,h,Option.none_or];simp[hp]
theorem xUu {m:Mk}{w:Int}(h:(yZd m).1≠0):0<(yQi m w).length:=by
 unfold yQi;rw[if_neg h,List.length_map];exact (wZf _ _ _ _).1
theorem xQp (g:FuncId)(fi:List IV)(he:entI prog g=true)(us:List (List Mk))(p:List Mk->Bool)(st:ISt)(hp:∀a∈us,∀t x,okEs t 6->IsMks a x->ICall prog gl g (fi++[.sl t x]) st (λr st'=>r=.raw (.bool (p a))/\st'=st))
  (tg:Tag) (xs:List IV) (htg:okEs tg 1) (hxs:IsMkss us xs) :
  ICall prog gl 149 [.sl tg xs,.fn (.func g) fi []] st (λr st'=>r=.raw (.bool (us.any p))/\st'=st):=by
 have hI:ICall prog gl 221 [.sl tg xs,.fn (.func g) fi []] st (λr st'=>(∃n:Int,r=.raw (.int .i64 n)/\decide (0<=n)=us.any p)/\st'=st):=by
  refine iI func221 ?_;simp only[go_sem,zE,zB,zA,zM,zS,zL,reduceCtorEq,hxs.len];intro _;refine LoopC.ctr us.length (λk fr st' ds=>(us.take k).any p=false/\fr 0=.iv (.sl tg xs)/\fr 1=.iv (.fn (.func g) fi [])/\fr 7=.iv (.raw (.int .i64 us.length))/\fr 8=.iv (.raw (.int .i64 k))/\st'=st/\ds=[]) ?_ ?_ ?_
  ·simp only[go_sem,zE,zB,zA,zM,zS,zL,reduceCtorEq];exact⟨rfl,rfl⟩
  ·rintro k fr st1 _ hlt ⟨hn,f0,f1,f7,f8,rfl,rfl⟩;obtain⟨a,ha⟩:=yQ3 hlt;obtain⟨t,y,hky,ht,hy⟩:=hxs.get ha;have hcall:=hp a (lMg ha) t y ht hy;simp only[go_sem,zE,zB,zA,zM,zS,zL,reduceCtorEq,f0,f1,f7,f8,lt_i hlt,yQ2 htg,iNn,hky,fits,he];refine hcall.mono ?_;rintro _ _ ⟨rfl,rfl⟩;cases hr:p a
   ·simp only[go_sem,zE,zB,zA,zM,zS,zL,reduceCtorEq,f0,f1,f7,f8,yQa hlt (show us.length<=281474976710656 by omega)];rw[yQ8 ha,List.any_append,hn];simp[hr]
   ·simp only[go_sem,zE,zB,zA,zM,zS,zL,reduceCtorEq];refine yQ0 ⟨⟨_,rfl,?_⟩,rfl⟩;rw[dEt (iNn k)];exact (List.any_eq_true.2 ⟨a,lMg ha,hr⟩).symm
  ·rintro fr st1 _ ⟨hn,f0,f1,f7,f8,rfl,rfl⟩;rw[lTl] at hn;simp only[go_sem,zE,zB,zA,zM,zS,zL,reduceCtorEq,f7,f8,yQk (nLi _)];exact yQ0 ⟨⟨_,rfl,by rw[hn];rfl⟩,rfl⟩
 refine iI func149 ?_;simp only[go_sem,zE,zB,zA,zM,zS,zL,reduceCtorEq];refine hI.mono ?_;rintro _ _ ⟨⟨n,rfl,hn⟩,rfl⟩;simp only[go_sem,zE,zB,zA,zM,zS,zL,reduceCtorEq,hn];exact yQ0 ⟨rfl,rfl⟩
def NxR:Option (Mk×Bool)->IV->Prop
 | some (m,c),r=>∃z,r=.tup [z,.raw (.bool true)]/\IsN0 m c z
 | none,r=>r=.tup [.agg ndZ,.raw (.bool false)]
theorem zUr {l:List Mk}{k:Nat}(hg:∀m∈l,m.f.op<=7)(hk:3<=k):yXy l k=[]:=by
 rw[yXy,List.filter_eq_nil_iff];intro m hm h;have h7:=hg m hm;have h:(yZd m).1=k:=by simpa using h
 unfold yZd rowT at h;rw[if_neg (show ¬ ((m.f.op:Int)=10) by omega),if_neg (show ¬ ((m.f.op:Int)=11) by omega)] at h;cases m.is<;>grind
theorem vJr (l:List Mk)(tb:Nat)(x:IV)(hx:IsBr l tb x)(hl:l.length<=1000000)(hg:∀m∈l,m.f.op<=7)(st:ISt)(es:List (Value×IV))(hb:st tb=some (.map .sg es))(ht:zZn es) :
  ICall prog gl 92 [.cptr x] st (λr st'=>NxR (yGe l) r/\st'=st):=by
 have hcl:=λm y hy st=>xQj gl l tb x hx m y hy st;have hus:=λk hk st=>wXl gl x k hk st;have hit:=λk hk=>xYq gl l tb x hx hl k hk es ht;have hall:=λq tg zs htg hzs st=>wZ9 gl l tb x hx q tg zs htg hzs st;have hall2:=λus st tg xs htg hxs=>xQp gl 147 [.cptr x] (by simp only[go_sem]) us (allT l) st (λa _ t y h1 h2=>hall a t y h1 h2 st) tg xs htg hxs;obtain⟨t,xs,t',v,rfl,ht6,hap,hxs,ht1,htc⟩:=hx;refine ICall.intro (c:=cf prog gl [2,3] [(19,[0,1,2,3,4,5,7,8,6,9,10])] [1]) func92 rfl (by show _<=118;simp) (by kernel_rfl) ?_;simp only[go_sem,zE,zB,zA,zM,zS,zL,reduceCtorEq,fits,brI];refine λb2=>yQf λhb2 b3=>yQf λhb3=>?_;have h23:b2≠b3:=λh=>by rw[<- h,ISt.put_same] at hb3;cases hb3
 have hb3':st b3=none:=by rw[yQ9 h23.symm] at hb3;exact hb3
 have ht2:tb≠b2:=λh=>by rw[<- h,hb] at hb2;cases hb2
 have ht3:tb≠b3:=λh=>by rw[<- h,hb] at hb3';cases hb3'
 rw[hxs.len];intro _;obtain⟨S,hS⟩:∃S,S=(st.put b2 (some (.box ndZ))).put b3 (some (.box [.raw (.bool false)])):=⟨_,rfl⟩
 have g2:S b2=some (.box ndZ):=by rw[hS,yQ9 h23,ISt.put_same]
 have g3:S b3=some (.box [.raw (.bool false)]):=by rw[hS,ISt.put_same]
 have gt:S tb=some (.map .sg es):=by rw[hS,yQ9 ht3,yQ9 ht2];exact hb
 have hsub:∀o o',subSt st ((S.put b2 o).put b3 o'):=λo o' c y hc=>by
  have c2:c≠b2:=λh=>by rw[h,hb2] at hc;cases hc
  have c3:c≠b3:=λh=>by rw[h,hb3'] at hc;cases hc
  rw[yQ9 c3,yQ9 c2,hS,yQ9 c3,yQ9 c2];exact hc
 refine LoopC.ctr l.length (λk fr st' ds=>(l.take k).find? (yKn l)=none/\fr 1=.iv (.cptr (.cptr (.agg (brI tb t xs t' v))))/\fr 2=.iv (ptrI b2)/\fr 3=.iv (ptrI b3)/\fr 16=.iv (.sl t xs)/\fr 17=.iv (.raw (.int .i64 l.length))/\fr 18=.iv (.raw (.int .i64 k))/\st'=S/\ds=[]) ?_ ?_ ?_
 ·simp only[go_sem,zE,zB,zA,zM,zS,zL,reduceCtorEq];exact⟨rfl,rfl,rfl,rfl,rfl,hS.symm⟩
 ·rintro k fr st1 _ hlt ⟨hno,f1,f2,f3,f16,f17,f18,rfl,rfl⟩;obtain⟨a,ha⟩:=yQ3 hlt;obtain⟨z,hkz,hz⟩:=hxs.get ha;have hc1:=λst=>hcl a z hz st;obtain⟨o5,n5,t5,x5,t6,x6,rfl,h1⟩:=hz;simp only[go_sem,zE,zB,zA,zM,zS,zL,reduceCtorEq,f1,f2,f3,f16,f17,f18,lt_i hlt,yQ2 ht6,iNn,hkz,fits];refine (hc1 _).mono ?_;rintro _ st1 ⟨rfl,rfl⟩;cases hb1:yKn l a
  ·simp only[go_sem,zE,zB,zA,zM,zS,zL,reduceCtorEq,f1,f2,f3,f16,f17,f18,yQa hlt (show l.length<=281474976710656 by omega)];exact xX9 ha hno hb1
  ·have hm:yGe l=some (a,true):=by
    rw[yGe,zYf ha hno hb1]
   simp only[go_sem,zE,zB,zA,zM,zS,zL,reduceCtorEq,f1,f2,f3,f16,f17,f18,fits,ptrI,g2,g3,yQ9 h23,yQ9 h23.symm,ISt.put_same];rw[if_pos (by decide)];rw[hm];exact yQb (hsub _ _) ⟨⟨_,rfl,⟨_,_,_,_,_,_,rfl,h1⟩⟩,rfl⟩
 ·rintro fr st1 _ ⟨hno,f1,f2,f3,f16,f17,f18,rfl,rfl⟩;rw[lTl] at hno;simp only[go_sem,zE,zB,zA,zM,zS,zL,reduceCtorEq,f1,f2,f3,f16,f17,f18,yQk (nLi _)];refine (hus 1 (by decide) _).mono ?_;rintro _ st1 ⟨rfl,rfl⟩;simp only[go_sem,zE,zB,zA,zM,zS,zL,reduceCtorEq,fits,useI];obtain⟨p,hp⟩:∃p:Mk->Bool,p=λm=>!allT l (((yQi m 0)[0]?).getD []):=⟨_,rfl⟩
  obtain⟨p2,hp2⟩:∃p:Mk->Bool,p=λm=>!(yQi m 0).any (allT l):=⟨_,rfl⟩
  refine RangeC.intro (mkX (yXy l 1)) (yXy l 1).length (λk s=>s=st1/\((yXy l 1).take k).find? p=none) (λe s=>e=.ret/\∃m nd,yGe l=some (m,false)/\IsN0 m false (.agg nd)/\s=(st1.put b2 (some (.box nd))).put b3 (some (.box [.raw (.bool true)]))) rfl ?_ ?_ ?_ ?_ ?_ ?_
  ·rintro k a ⟨_,_,_,_,rfl⟩;rfl
  ·exact⟨rfl,rfl⟩
  ·rintro k _ st2 ⟨a,y,hka,hy,rfl⟩ ⟨rfl,hno2⟩;have ham:=lMg hka;rw[yXy,List.mem_filter] at ham;obtain⟨hal,hak⟩:=ham;have hak1:(yZd a).1=1:=by simpa using hak
   have hli:=λst hb=>zJd gl a y hy (hg a hal) 0 st tb es hb ht;have hy0:=hy;obtain⟨o5,n5,t5,x5,t6,x6,rfl,h1⟩:=hy;simp only[go_sem,zE,zB,zA,zM,zS,zL,reduceCtorEq,f1,f2,f3,fits,brI];refine (hli _ gt).mono ?_;rintro _ st2 ⟨tg,qs,rfl,htg,hqs,rfl⟩;obtain⟨q0,hq0⟩:=yQ3 (xUu (w:=0) (show (yZd a).1≠0 by omega));obtain⟨tq,zq,hkq,htq,hzq⟩:=hqs.get hq0;have hpa:p a=!allT l q0:=by rw[hp];simp only[hq0,Option.getD_some]
   simp only[go_sem,zE,zB,zA,zM,zS,zL,reduceCtorEq,yQ2 htg,Int.le_refl,Int.toNat_zero,hkq,fits];refine (hall q0 tq zq htq hzq _).mono ?_;rintro _ st2 ⟨rfl,rfl⟩;cases hb2:allT l q0
   ·rw[hb2] at hpa;have hm:yGe l=some (a,false):=by
     rw[yGe,hno,<- hp,zYf hka hno2 hpa]
    simp only[go_sem,zE,zB,zA,zM,zS,zL,reduceCtorEq,f1,f2,f3,fits,ptrI,g2,g3,yQ9 h23,yQ9 h23.symm,ISt.put_same];rw[if_pos (by decide)];exact⟨_,_,hm,⟨_,_,_,_,_,_,rfl,h1⟩,rfl⟩
   ·rw[hb2] at hpa;simp only[go_sem,zE,zB,zA,zM,zS,zL,reduceCtorEq,f1,f2,f3,fits];exact xX9 hka hno2 hpa
  ·exact λy I' S' st hfn hI hy h0=>hit 1 (by decide) y I' S' st hfn (λk stu h=>by obtain⟨s0,h1,rfl,_⟩:=hI k stu h;exact⟨_,h1,gt⟩) hy h0
  ·rintro st2 r ⟨rfl,hno2⟩;rw[lTl] at hno2;simp only[go_sem,zE,zB,zA,zM,zS,zL,reduceCtorEq,f1,f2,f3,fits];refine (hus 3 (by decide) _).mono ?_;rintro _ st2 ⟨rfl,rfl⟩;simp only[go_sem,zE,zB,zA,zM,zS,zL,reduceCtorEq,fits,useI];refine RangeC.intro (mkX (yXy l 3)) (yXy l 3).length (λ_ s=>s=st2) (λ_ _=>False) rfl ?_ ?_ ?_ ?_ ?_ ?_
   ·rintro k a ⟨_,_,_,_,rfl⟩;rfl
   ·rfl
   ·rintro k _ st2 ⟨a,y,hka,_⟩ _;rw[zUr hg (by decide)] at hka;simp at hka
   ·exact λy I' S' st hfn hI hy h0=>hit 3 (by decide) y I' S' st hfn (λk stu h=>by obtain⟨s0,h1,rfl⟩:=hI k stu h;exact⟨_,h1,gt⟩) hy h0
   rotate_left
   ·exact λ_ _ _ h=>h.elim
   rintro st2 r rfl;simp only[go_sem,zE,zB,zA,zM,zS,zL,reduceCtorEq,f1,f2,f3,fits];refine (hus 2 (by decide) _).mono ?_;rintro _ st2 ⟨rfl,rfl⟩;simp only[go_sem,zE,zB,zA,zM,zS,zL,reduceCtorEq,fits,useI];refine RangeC.intro (mkX (yXy l 2)) (yXy l 2).length (λk s=>s=st2/\((yXy l 2).take k).find? p2=none) (λe s=>e=.ret/\∃m nd,yGe l=some (m,false)/\IsN0 m false (.agg nd)/\s=(st2.put b2 (some (.box nd))).put b3 (some (.box [.raw (.bool true)]))) rfl ?_ ?_ ?_ ?_ ?_ ?_
   ·rintro k a ⟨_,_,_,_,rfl⟩;rfl
   ·exact⟨rfl,rfl⟩
   ·rintro k _ st2 ⟨a,y,hka,hy,rfl⟩ ⟨rfl,hno3⟩;have ham:=lMg hka;rw[yXy,List.mem_filter] at ham;have hli:=λst hb=>zJd gl a y hy (hg a ham.1) 0 st tb es hb ht;have hpa:p2 a=!(yQi a 0).any (allT l):=by rw[hp2]
    obtain⟨o5,n5,t5,x5,t6,x6,rfl,h1⟩:=hy;simp only[go_sem,zE,zB,zA,zM,zS,zL,reduceCtorEq,f1,f2,f3,fits,brI];refine (hli _ gt).mono ?_;rintro _ st2 ⟨tg,qs,rfl,htg,hqs,rfl⟩;simp only[go_sem,zE,zB,zA,zM,zS,zL,reduceCtorEq,fits];refine (hall2 _ _ tg qs htg hqs).mono ?_;rintro _ st2 ⟨rfl,rfl⟩;cases hb2:(yQi a 0).any (allT l)
    ·rw[hb2] at hpa;have hm:yGe l=some (a,false):=by
      rw[yGe,hno,<- hp,<- hp2,hno2,zYf hka hno3 hpa];rfl
     simp only[go_sem,zE,zB,zA,zM,zS,zL,reduceCtorEq,f1,f2,f3,fits,ptrI,g2,g3,yQ9 h23,yQ9 h23.symm,ISt.put_same];rw[if_pos (by decide)];exact⟨_,_,hm,⟨_,_,_,_,_,_,rfl,h1⟩,rfl⟩
    ·rw[hb2] at hpa;simp only[go_sem,zE,zB,zA,zM,zS,zL,reduceCtorEq,f1,f2,f3,fits];exact xX9 hka hno3 hpa
   ·exact λy I' S' st hfn hI hy h0=>hit 2 (by decide) y I' S' st hfn (λk stu h=>by obtain⟨s0,h1,rfl,_⟩:=hI k stu h;exact⟨_,h1,gt⟩) hy h0
   rotate_left
   ·rintro e st2 r ⟨rfl,m,nd,hm,hnd,rfl⟩;have hnd0:=hnd;obtain⟨o1,n1,t1,y1,t2,y2,he,_⟩:=hnd;obtain rfl:=IV.agg.inj he;simp only[go_sem,zE,zB,zA,zM,zS,zL,reduceCtorEq,f2,f3,ptrI,yQ9 h23,ISt.put_same,resC,fits];rw[hm];exact yQb (hsub _ _) ⟨⟨_,rfl,hnd0⟩,rfl⟩
   rintro st2 r ⟨rfl,hno3⟩;rw[lTl] at hno3;simp only[go_sem,zE,zB,zA,zM,zS,zL,reduceCtorEq,f1,f2,f3,fits];refine (hus 4 (by decide) _).mono ?_;rintro _ st2 ⟨rfl,rfl⟩;simp only[go_sem,zE,zB,zA,zM,zS,zL,reduceCtorEq,fits,useI];refine RangeC.intro (mkX (yXy l 4)) (yXy l 4).length (λ_ s=>s=st2) (λ_ _=>False) rfl ?_ ?_ ?_ ?_ ?_ ?_
   ·rintro k a ⟨_,_,_,_,rfl⟩;rfl
   ·rfl
   ·rintro k _ st2 ⟨a,y,hka,_⟩ _;rw[zUr hg (by decide)] at hka;simp at hka
   ·exact λy I' S' st hfn hI hy h0=>hit 4 (by decide) y I' S' st hfn (λk stu h=>by obtain⟨s0,h1,rfl⟩:=hI k stu h;exact⟨_,h1,gt⟩) hy h0
   rotate_left
   ·exact λ_ _ _ h=>h.elim
   rintro st2 r rfl;have hm:yGe l=none:=by
    rw[yGe,hno,<- hp,<- hp2,hno2,hno3];rfl
   rw[hm];simp only[go_sem,zE,zB,zA,zM,zS,zL,reduceCtorEq,f1,f2,f3,fits,ptrI,g2,g3,yQ9 h23,yQ9 h23.symm,ISt.put_same];rw[if_pos (by decide)];exact yQb (hsub _ _) ⟨rfl,rfl⟩
  ·rintro e st2 r ⟨rfl,m,nd,hm,hnd,rfl⟩;have hnd0:=hnd;obtain⟨o1,n1,t1,y1,t2,y2,he,_⟩:=hnd;obtain rfl:=IV.agg.inj he;simp only[go_sem,zE,zB,zA,zM,zS,zL,reduceCtorEq,f2,f3,ptrI,yQ9 h23,ISt.put_same,resC,fits];rw[hm];exact yQb (hsub _ _) ⟨⟨_,rfl,hnd0⟩,rfl⟩
mutual
def Grows:Nd->List Mk->Prop
 | .mk m c w sub,l=>w=0/\yGe l=some (m,c)/\(if c=true then sub=[] else (yZd m).1≠0/\GrowsL sub l (yQi m 0))
def GrowsL:List Nd->List Mk->List (List Mk)->Prop
 | [],_,[]=>True
 | n::ns,l,q::qs=>Grows n (yQu l q)/\GrowsL ns l qs
 | [],_,_::_=>False
 | _::_,_,[]=>False
end
theorem GrowsL.len:∀ {ns:List Nd}{l:List Mk}{qs:List (List Mk)},GrowsL ns l qs->ns.length=qs.length
 | [],_,[],_=>rfl
 | _::_,_,_::_,h=>by rw[GrowsL] at h;simp[GrowsL.len h.2]
theorem GrowsL.get:∀ {ns:List Nd}{l:List Mk}{qs:List (List Mk)}{k:Nat}{n:Nd}{q:List Mk},GrowsL ns l qs->ns[k]?=some n->qs[k]?=some q->Grows n (yQu l q)
 | _::_,_,_::_,0,_,_,h,h1,h2=>by
  rw[GrowsL] at h;simp only[List.getElem?_cons_zero,Option.some.injEq] at h1 h2;subst h1 h2;exact h.1
 | _::_,_,_::_,k+1,_,_,h,h1,h2=>by
  rw[GrowsL] at h;exact GrowsL.get (k:=k) h.2 (by simpa using h1) (by simpa using h2)
theorem xKi {l:List Mk}{m:Mk}{c:Bool}(h:yGe l=some (m,c)):m∈l/\(c=false->(yZd m).1≠0):=by
 unfold yGe at h;split at h
 ·rename_i m' hm;cases h;exact⟨List.mem_of_find?_eq_some hm,nofun⟩
 ·have key:∀k (p:Mk->Bool) m',k≠0->(yXy l k).find? p=some m'->m'∈l/\(yZd m').1≠0:=λk p m' hk h=>by
   have h:=List.mem_of_find?_eq_some h;rw[yXy,List.mem_filter] at h;exact⟨h.1,by have:=of_decide_eq_true h.2;omega⟩
  split at h
  ·rename_i m' hm;cases h;exact⟨(key 1 _ _ (by decide) hm).1,λ_=>(key 1 _ _ (by decide) hm).2⟩
  ·cases hq:(yXy l 2).find? λm=>!(yQi m 0).any (allT l) with
   | none=>rw[hq] at h;cases h
   | some m' =>
    rw[hq] at h;cases h;exact⟨(key 2 _ _ (by decide) hq).1,λ_=>(key 2 _ _ (by decide) hq).2⟩
mutual
theorem Grows.one:∀ {n n':Nd}{l:List Mk},Grows n l->Grows n' l->n=n'
 | .mk m c w sub,.mk m' c' w' sub',l,h,h'=>by
  rw[Grows] at h h';obtain⟨rfl,h1,h2⟩:=h;obtain⟨rfl,h1',h2'⟩:=h';rw[h1] at h1';cases h1';cases c
  ·simp only[bFt,if_false] at h2 h2';rw[GrowsL.one h2.2 h2'.2]
  ·simp only[if_true] at h2 h2';rw[h2,h2']
theorem GrowsL.one:∀ {ns ns':List Nd}{l:List Mk}{qs:List (List Mk)},GrowsL ns l qs->GrowsL ns' l qs->ns=ns'
 | [],[],_,_,_,_=>rfl
 | n::ns,n'::ns',l,q::qs,h,h'=>by
  rw[GrowsL] at h h';rw[Grows.one h.1 h'.1,GrowsL.one h.2 h'.2]
 | [],_::_,_,[],_,h'=>by simp only[GrowsL] at h'
 | _::_,[],_,[],h,_=>by simp only[GrowsL] at h
 | [],_::_,_,_::_,h,_=>by simp only[GrowsL] at h
 | _::_,[],_,_::_,_,h'=>by simp only[GrowsL] at h'
end
theorem GrowsL.snoc:∀ {ns:List Nd}{n:Nd}{l:List Mk}{qs:List (List Mk)}{q:List Mk},GrowsL ns l qs->Grows n (yQu l q)->GrowsL (ns++[n]) l (qs++[q])
 | [],_,_,[],_,_,h=>by simp only[List.nil_append,GrowsL];exact⟨h,trivial⟩
 | a::ns,n,l,p::qs,q,h,h'=>by
  rw[GrowsL] at h;simp only[List.cons_append,GrowsL];exact⟨h.1,h.2.snoc h'⟩
theorem GrowsL.take:∀ {ns:List Nd}{l:List Mk}{qs:List (List Mk)}(k:Nat),GrowsL ns l qs->GrowsL (ns.take k) l (qs.take k)
 | [],_,[],k,_=>by simp[GrowsL]
 | a::ns,l,p::qs,0,h=>by simp[GrowsL]
 | a::ns,l,p::qs,k+1,h=>by
  rw[GrowsL] at h;simp only[List.take_succ_cons,GrowsL];exact⟨h.1,h.2.take k⟩
theorem wU2 {st S0:ISt}{tg:Tag}{n s gb:Nat}{cs:List IV}{o:Option IObj}(h:own st tg n s S0)(hg:st gb=some (.box cs)):own (st.put gb o) tg n s S0:=by
 rcases h with h|h|⟨g,h1,h2,h3⟩
 ·exact .inl h
 ·exact .inr (.inl h)
 ·exact .inr (.inr ⟨g,h1,by rw[yQ9 (λhq=>by rw[hq,hg] at h2;cases h2)];exact h2,h3⟩)
theorem xUv (m:Mk):(yQi m 0).length<=2:=by
 unfold yQi askT
 repeat' split
 all_goals simp
def kZ0 (l:List Mk)(tb gb v:Nat)(rest:List IV)(st:ISt)(r:IV)(st':ISt):Prop :=
 (∃n z,r=.tup [z,.raw (.int .i64 0)]/\IsNd n z/\dfr z/\Grows n l/\v+n.nodes<=300/\st'=st.put gb (some (.box (.raw (.int .i64 (v+n.nodes:Nat))::rest)))) \/
 ∃(e:Int) (u:Nat) (q:List IV),e≠0/\r=.tup [.agg ndZ,.raw (.int .i64 e)]/\(∀n,Grows n l->300<v+n.nodes)/\st'=st.put gb (some (.box (.raw (.int .i64 (u:Nat))::q)))/\(q=rest\/∃t xs t' w,q=brI tb t xs t' w)
def vZ3 (k:Nat):Prop:=∀(l:List Mk) (tb:Nat) (x:IV) (_:IsBr l tb x) (_:GoodT l) (_:∀m∈l,m.f.size<=1000) (v:Nat) (_:v<=300) (_:300<=v+k) (_:l.length<=100+2*v) (st:ISt) (es:List (Value×IV)) (_:st tb=some (.map .sg es)) (_:zZn es) (gb:Nat) (rest:List IV) (_:rest.length=4) (_:st gb=some (.box (.raw (.int .i64 v)::rest))),
 ICall prog gl 45 [ptrI gb,x] st (kZ0 l tb gb v rest st)
theorem wQn (kk:Nat)(IH:∀j,j<kk->vZ3 gl j):vZ3 gl kk:=by
 intro l tb x hx hgood hsz v hv hvk hlen st es hb ht gb rest hrest hgb;have hop:∀m∈l,m.f.op<=7:=λm hm=>by
  have h4:=(yXi.1 (hgood m hm).1).2.2.2;obtain⟨mi,mw,⟨o,n,us,sb⟩⟩:=m;simp only[opsB,bAt,dTe] at h4;show o<=7;simpa using h4.1.1.2
 have hnext:=λst hb=>vJr gl l tb x hx (by omega) hop st es hb ht;have hbel:=λm hm q tg zs htg hzs hl st hb y hy=>wZc gl l tb x hx m y hy (hop m hm) q tg zs htg hzs hl st es hb ht;have hx0:=hx;obtain⟨t,xs,t',v',rfl,ht6,hap,hxs,ht1,htc⟩:=hx;have htg:tb≠gb:=λh=>by rw[h,hgb] at hb;cases hb
 have hw:IntKind.i64.wrap ((v:Int)+1)=((v+1:Nat):Int):=by rw[w64]<;>omega
 obtain⟨ra,rb,rc,rd,rfl⟩:∃a b c d,rest=[a,b,c,d]:=by
  match rest,hrest with
  | [a,b,c,d],_=>exact⟨a,b,c,d,rfl⟩
 unfold ptrI;refine ICall.intro (c:=cf prog gl [] [] [3]) func45 rfl (by show _<=84;simp) (by kernel_rfl) ?_;simp only[go_sem,zE,zB,zA,zM,zS,zL,reduceCtorEq,fits,brI];refine (hnext _ hb).mono ?_;rintro r0 st ⟨hr0,rfl⟩;cases hnx:yGe l with
 | none =>
  rw[hnx] at hr0;obtain rfl:r0=_:=hr0;have hno:∀n,Grows n l->300<v+n.nodes:=λn h=>by
   obtain⟨m,c,w,sub⟩:=n;rw[Grows,hnx] at h;cases h.2.1
  simp only[go_sem,zE,zB,zA,zM,zS,zL,reduceCtorEq,fits,ndZ,hgb];exact yQ0 (.inr ⟨6,v,_,by decide,rfl,hno,rfl,.inr ⟨t,xs,t',v',rfl⟩⟩)
 | some mc =>
  obtain⟨m,c⟩:=mc;rw[hnx] at hr0;obtain⟨z,rfl,hz⟩:=hr0;obtain⟨hml,hfi⟩:=xKi hnx;have hmo:=hop m hml;obtain⟨o,n,t1,x1,t2,x2,rfl,h1⟩:=hz;have d8:decide ((0:Int)=8)=false:=rfl;by_cases hv3:v+1<=300
  case neg =>
   have hno:∀n,Grows n l->300<v+n.nodes:=λn _=>by
    obtain⟨_,_,_,sub⟩:=n;simp only[Nd.nodes];omega
   simp only[go_sem,zE,zB,zA,zM,zS,zL,reduceCtorEq,fits,hgb,hw,dEt (show (300:Int)<((v+1:Nat):Int) by omega),d8,ISt.put_same,yQh];exact yQ0 (.inr ⟨_,_,_,by decide,rfl,hno,rfl,.inl rfl⟩)
  have hd:decide ((300:Int)<((v+1:Nat):Int))=false:=dEf (by omega);have hcp:=λst=>xVa gl m _ ⟨_,_,_,_,_,_,rfl,h1⟩ (by have:=hsz m hml;omega) st;cases c
  ·have hfi:=hfi rfl;have hsl:=xUv m;have hli:=λst hb=>zJd gl m _ ⟨_,_,_,_,_,_,rfl,h1⟩ hmo 0 st tb es hb ht;simp only[go_sem,zE,zB,zA,zM,zS,zL,reduceCtorEq,fits,hgb,hw,hd,d8,ISt.put_same,yQh];refine (hli _ (by rw[yQ9 htg];exact hb)).mono ?_;rintro _ _ ⟨tq,qs,rfl,etq,iq,rfl⟩;simp only[go_sem,zE,zB,zA,zM,zS,zL,reduceCtorEq,fits,iq.len];intro _;obtain⟨S0,hS0⟩:∃S0,S0=st.put gb none:=⟨_,rfl⟩
   have hS0t:S0 tb=some (.map .sg es):=by rw[hS0,yQ9 htg];exact hb
   have hkeep:∀(st':ISt) o,subSt S0 st'->subSt S0 (st'.put gb o):=λst' o h c y hc=>by
    have:c≠gb:=λhq=>by rw[hq,hS0,ISt.put_same] at hc;cases hc
    rw[yQ9 this];exact h c y hc
   refine LoopC.ctr (yQi m 0).length (λk fr st' ds=>(∃tg' ys ns,fr 6=.box [.raw (.bool m.is),.raw (.int .i64 m.w),.raw (.int .u8 o),.raw (.string n),.sl t1 x1,.sl t2 x2,.raw (.bool false),.raw (.int .i64 0),.sl tg' ys]/\GrowsL ns l ((yQi m 0).take k)/\v+1+yQg ns<=300/\IsNds ns ys/\(dfrs ys/\appT k tg')/\own st' tg' k 9 S0/\subSt S0 st' /\
    st' gb=some (.box (.raw (.int .i64 (v+1+yQg ns:Nat))::[ra,rb,rc,rd])))/\fr 0=.iv (.raw (.pointer (some ⟨gb,0,none⟩)))/\fr 3=.iv (.cptr (.agg (brI tb t xs t' v')))/\fr 4=.box ndZ/\fr 53=.iv (.sl tq qs)/\fr 54=.iv (.raw (.int .i64 (yQi m 0).length))/\fr 55=.iv (.raw (.int .i64 k))/\ds=[]) ?_ ?_ ?_
   ·simp only[go_sem,zE,zB,zA,zM,zS,zL,reduceCtorEq];exact⟨⟨⟨true,.nil,0⟩,[],[],rfl,trivial,by simp only[yQg];omega,rfl,⟨trivial,.inl rfl⟩,.inl ⟨rfl,rfl⟩,λc y hc=>by
     have:c≠gb:=λhq=>by rw[hq,hS0,ISt.put_same] at hc;cases hc
     rw[hS0,yQ9 this] at hc;rw[yQ9 this];exact hc,by simp[yQg]⟩,by first|rfl|exact⟨rfl,rfl⟩|exact⟨rfl,rfl,rfl⟩⟩
   ·rintro k fr st1 _ hlt ⟨⟨tg',ys,ns,f6,hgl,hns,hys,hyd,hown,hss,hg1⟩,f0,f3,f4,f53,f54,f55,rfl⟩;obtain⟨q,hq⟩:=yQ3 hlt;obtain⟨tk,zk,hkq,etk,izk⟩:=iq.get hq;have hqm:=lMg hq;have hq2:=yJr m 0 q hqm;have hal:=yZc q l;have hnl:ns.length=k:=by have:=hgl.len;rw[List.length_take] at this;omega
    have hg':GoodT (yQu l q):=hgood.adds λx hx=>by
     obtain⟨h1,h2⟩:=(yWy (hgood m hml).1 hfi 0).2.2.1 q hqm x hx;exact⟨h1,h2.trans (hgood m hml).2⟩
    have hs':∀x∈yQu l q,x.f.size<=1000:=λx hx=>(yV7.1 hx).elim (hsz x) λh=>Nat.le_trans (yGx (hgood m hml).1 hfi 0 q hqm x h) (hsz m hml);simp only[go_sem,zE,zB,zA,zM,zS,zL,reduceCtorEq,f0,f3,f4,f6,f53,f54,f55,lt_i hlt,yQ2 etq,iNn,hkq,fits];refine (hbel m hml q tk zk etk izk (by omega) _ (hss _ _ hS0t) _ ⟨_,_,_,_,_,_,rfl,h1⟩).mono ?_;rintro y st1 ⟨hy,rfl⟩;have hrec:=IH (kk-1) (by omega) (yQu l q) tb y hy hg' hs' (v+1+yQg ns) (by omega) (by omega) (by omega) st1 es (hss _ _ hS0t) ht gb _ rfl hg1;obtain⟨ty,xy,ty',vy,rfl,_⟩:=hy;simp only[go_sem,zE,zB,zA,zM,zS,zL,reduceCtorEq,f0,f3,f4,f6,f53,f54,f55,fits,brI];refine hrec.mono ?_;rintro _ _ (⟨nd,z,rfl,hz,hzd,hgn,hvn,rfl⟩|⟨e,u,bq,he,rfl,hno,rfl,hbq⟩)
    ·have hz0:=hz;obtain⟨v3,w3,o3,n3,t3,y3,t4,y4,c5,w5,t6,y6,rfl⟩:=yXq hz;simp only[go_sem,zE,zB,zA,zM,zS,zL,reduceCtorEq,f0,f3,f4,f6,f53,f54,f55,fits,yQ1,decide_true,Bool.not_true];refine yZb (wU2 hown hg1) (by rw[hys.len];omega) (hkeep _ _ hss) rfl (by simp[fits,IV.one]) (by simp only;omega) (by omega) λtg3 st5 hown3 hsub5 hkf hap3=>?_;simp only[go_sem,zE,zB,zA,zM,zS,zL,reduceCtorEq,f0,f3,f4,f6,f53,f54,f55,fits,yQa hlt (show (yQi m 0).length<=281474976710656 by omega)];have hsn:yQg (ns++[nd])=yQg ns+nd.nodes:=by rw[yXk];simp[yQg]
     refine⟨⟨tg3,_,ns++[nd],rfl,by rw[yQ8 hq];exact hgl.snoc hgn,by omega,hys.append ⟨_,_,rfl,hz0,rfl⟩,⟨yJ3 hyd.1 ⟨hzd,trivial⟩,hap3⟩,hown3,hsub5,?_⟩,rfl⟩;rw[hkf gb _ (ISt.put_same ..) (λn=>by simp),hsn];simp only[Nat.add_assoc]
    ·have hno':∀n,Grows n l->300<v+n.nodes:=λn h=>by
      obtain⟨m',c',w',sub⟩:=n;rw[Grows,hnx] at h;obtain⟨_,h2,h3⟩:=h;cases h2;simp only[bFt,if_false] at h3;have h4:=h3.2.len;obtain⟨a,ha⟩:=yQ3 (show k<sub.length by omega);have h5:=hno a (h3.2.get ha hq);have h6:=(h3.2.take k).one hgl;have h7:yQg (sub.take (k+1))=yQg ns+a.nodes:=by rw[yQ8 ha,yXk,h6];simp[yQg]
      have h8:=yJq sub (k+1);simp only[Nd.nodes];omega
     simp only[go_sem,zE,zB,zA,zM,zS,zL,reduceCtorEq,f0,f3,f4,f6,f53,f54,f55,fits,ndZ,dEf he,Bool.not_false];refine yQb (st':=st.put gb (some (.box (.raw (.int .i64 (u:Nat))::bq)))) (λc y hc=>?_) (.inr ⟨e,u,bq,he,rfl,hno',rfl,hbq⟩);by_cases hcg:c=gb
     ·rw[hcg,ISt.put_same] at hc ⊢;exact hc
     ·rw[yQ9 hcg] at hc ⊢;exact hss c y (by rw[hS0,yQ9 hcg];exact hc)
   ·rintro fr st1 _ ⟨⟨tg',ys,ns,f6,hgl,hns,hys,hyd,hown,hss,hg1⟩,f0,f3,f4,f53,f54,f55,rfl⟩;rw[lTl] at hgl;simp only[go_sem,zE,zB,zA,zM,zS,zL,reduceCtorEq,f0,f3,f4,f6,f54,f55,yQk (nLi _),fits];refine (hcp _).mono ?_;rintro r _ ⟨⟨hr,hrd⟩,rfl⟩;obtain⟨o3,n3,t3,x3,t4,x4,rfl,h4⟩:=hr;simp only[go_sem,zE,zB,zA,zM,zS,zL,reduceCtorEq,f4,f6,ndZ,fits];refine yQb (st':=st.put gb (some (.box (.raw (.int .i64 (v+(Nd.mk m false 0 ns).nodes:Nat))::[ra,rb,rc,rd])))) (λc y hc=>?_) (.inl ⟨.mk m false 0 ns,_,rfl,?_,nd_d hrd (by rw[hgl.len];exact hyd.2) hyd.1 hys,?_,by simp only[Nd.nodes];omega,rfl⟩)
    ·by_cases hcg:c=gb
     ·rw[hcg,ISt.put_same] at hc;rw[hcg,hg1,<- hc,Nd.nodes,Nat.add_assoc]
     ·rw[yQ9 hcg] at hc;exact hss c y (by rw[hS0,yQ9 hcg];exact hc)
    ·simp only[IsNd];exact⟨_,_,_,_,_,_,_,_,rfl,h4,hown.es,hys⟩
    ·simp only[Grows,hnx,bFt,if_false];exact⟨trivial,trivial,hfi,hgl⟩
  ·simp only[go_sem,zE,zB,zA,zM,zS,zL,reduceCtorEq,fits,hgb,hw,hd,d8,ISt.put_same,yQh];refine (hcp _).mono ?_;rintro r _ ⟨⟨hr,hrd⟩,rfl⟩;obtain⟨o3,n3,t3,x3,t4,x4,rfl,h4⟩:=hr;simp only[go_sem,zE,zB,zA,zM,zS,zL,reduceCtorEq,fits];refine yQ0 (.inl ⟨.mk m true 0 [],_,rfl,?_,nd_d (l:=[]) hrd (.inl rfl) trivial rfl,by simp[Grows,hnx],by simp only[Nd.nodes,yQg];omega,by simp only[Nd.nodes,yQg]⟩);simp only[IsNd];exact⟨_,_,_,_,_,_,_,_,rfl,h4,.inl rfl,rfl⟩
theorem vK9 (k:Nat):vZ3 gl k:=Nat.strongRecOn k (wQn gl)
def blZ:List IV:=[.raw (.int .u8 0),.raw (.map none),.sl ⟨true,.nil,0⟩ [],.sl ⟨true,.nil,0⟩ []]
def BldJ (e:Int)(z bz:List IV)(b:Nat)(st0:ISt)(listed:Array Bool):Kt:=λad fr st ds=>(∀s,ad s=none)/\st=st0/\ds=[]/\fr 7=.iv (ptrI b)/\fr 8=.box z/\fr 9=.iv (.raw (.int .i64 e))/\(listed.getD 0 false=true->fr 28=.iv (.agg z)) /\
 (listed.getD 1 false=true->fr 29=.iv (.agg bz))/\(listed.getD 2 false=true->fr 30=.iv (.raw (.int .i64 e)))/\fr 4=.box (if listed.getD 3 false=true then z else ndZ)/\fr 5=.box (if listed.getD 4 false=true then bz else .raw (.int .i64 0)::blZ)/\(listed.getD 5 false=true->fr 6=.iv (.raw (.int .i64 e)))
def BzO (bz:List IV):Prop:=∃v a b t x t' x',bz=[.raw (.int .i64 v),.raw (.int .u8 a),.raw (.map b),.sl t x,.sl t' x']
def BldO (l:List Mk)(r:IV):Prop:=∃(e:Int) (z:IV) (bz:List IV),r=.tup [z,.agg bz,.raw (.int .i64 e)]/\BzO bz/\((e=0/\∃n,IsNd n z/\dfr z/\Grows n l/\n.nodes<=300)\/e≠0/\z=.agg ndZ/\∀n,Grows n l->300<n.nodes)
theorem wXo (G:Gl gl)(s:Sq)(x:IV)(hx:IsSq s x)(hw:wFms s.l+wFms s.r<=300)(hv:yX9 s=true)(st:ISt) :
  ICall prog gl 16 [.raw (.int .u8 1),x] st (λr st'=>BldO (yQp s) r/\st'=st):=by
 have hk:=λst=>zW7 gl st;have hV:=λst=>zW8 gl G s x hx (yUr hw) st;rw[hv] at hV;have h3:=yQj s.l;have h4:=yQj s.r;have h5:=yZy s.l;have h6:=yZy s.r;have hbeg:=λst=>wZd gl s x hx (by omega) st;have hsz:∀m∈yQp s,m.f.size<=1000:=λm hm=>by
  rcases (yKd.1 hm).2 with h|h
  ·have:=yXe h.2;omega
  ·have:=yXe h.2;omega
 have hlen:(yQp s).length<=100:=by
  have:=yZc (yJe s) [];have h3:(yJe s).length=s.l.length+s.r.length:=by simp[yJe]
  have h7:=hv;simp only[yX9,bAt,dTe] at h7;unfold yQp;simp only[List.length_nil] at this;omega
 obtain⟨tl,xl,tr,xr,rfl,e1,i1,e2,i2⟩:=hx;refine ICall.intro (c:=cf prog gl [7,29] [(7,[])]) func16 rfl (by show _<=31;simp) (by kernel_rfl) ?_;simp only[go_sem,zE,zB,zA,zM,zS,zL,reduceCtorEq,fits];refine λb=>yQf λhb=>?_;refine (hk _).mono ?_;rintro _ st1 ⟨rfl,hst1⟩;simp only[go_sem,zE,zB,zA,zM,zS,zL,reduceCtorEq,fits];refine (hV _).mono ?_;rintro _ st1 ⟨rfl,rfl⟩;simp only[go_sem,zE,zB,zA,zM,zS,zL,reduceCtorEq,fits];refine (hbeg _).mono ?_;rintro r _ ⟨tb,es,htb,hok,hbr,rfl⟩;have hbr0:=hbr;obtain⟨t,xs,t',v',rfl,_⟩:=hbr;have hbt:b≠tb:=λh=>by rw[<- h,hst1,ISt.put_same] at htb;cases htb
 simp only[go_sem,zE,zB,zA,zM,zS,zL,reduceCtorEq,fits,brI];refine (vK9 gl 300 (yQp s) tb _ hbr0 (yJl hv) hsz 0 (by decide) (by decide) (by omega) _ es (ISt.put_same ..) hok b blZ rfl (by rw[yQ9 hbt,hst1,ISt.put_same];rfl)).mono ?_;rintro r2 st2 hG;obtain⟨e0,v1,w1,o1,n1,t1,y1,t2,y2,c1,w2,t3,y3,bz,hre,hst2,hbz,hout⟩:∃(e:Int) (v1:Bool) (w1 o1:Int) (n1:ByteArray) (t1:Tag) (y1:List IV) (t2:Tag) (y2:List IV) (c1:Bool) (w2:Int) (t3:Tag) (y3 bz:List IV),r2=.tup [.agg [.raw (.bool v1),.raw (.int .i64 w1),.raw (.int .u8 o1),.raw (.string n1),.sl t1 y1,.sl t2 y2,.raw (.bool c1),.raw (.int .i64 w2),.sl t3 y3],.raw (.int .i64 e)] /\
   st2=((st1.put tb (some (.map .sg es))).put b (some (.box bz)))/\BzO bz/\BldO (yQp s) (.tup [.agg [.raw (.bool v1),.raw (.int .i64 w1),.raw (.int .u8 o1),.raw (.string n1),.sl t1 y1,.sl t2 y2,.raw (.bool c1),.raw (.int .i64 w2),.sl t3 y3],.agg bz,.raw (.int .i64 e)]):=by
  rcases hG with⟨n,z,rfl,hz,hzd,hg,hn,rfl⟩|⟨e,u,q,he,rfl,hno,rfl,hq⟩
  ·have hz0:=hz;obtain⟨v1,w1,o1,n1,t1,y1,t2,y2,c1,w2,t3,y3,rfl⟩:=yXq hz;have hB:BzO (.raw (.int .i64 (0+n.nodes:Nat))::blZ):=⟨_,_,_,_,_,_,_,rfl⟩
   exact⟨_,_,_,_,_,_,_,_,_,_,_,_,_,_,rfl,rfl,hB,_,_,_,rfl,hB,.inl ⟨rfl,n,hz0,hzd,hg,by omega⟩⟩
  ·have hB:BzO (.raw (.int .i64 (u:Nat))::q):=by rcases hq with rfl|⟨_,_,_,_,rfl⟩<;>exact⟨_,_,_,_,_,_,_,rfl⟩
   exact⟨_,_,_,_,_,_,_,_,_,_,_,_,_,_,rfl,rfl,hB,_,_,_,rfl,hB,.inr ⟨he,rfl,λn h=>by have:=hno n h;omega⟩⟩
 subst hre hst2;obtain⟨bv,ba,bm,bt,bx,bt',bx',rfl⟩:=hbz;simp only[go_sem,zE,zB,zA,zM,zS,zL,reduceCtorEq,fits,ISt.put_same];rw[yKg];refine yJ9 (BldJ e0 [.raw (.bool v1),.raw (.int .i64 w1),.raw (.int .u8 o1),.raw (.string n1),.sl t1 y1,.sl t2 y2,.raw (.bool c1),.raw (.int .i64 w2),.sl t3 y3] [.raw (.int .i64 bv),.raw (.int .u8 ba),.raw (.map bm),.sl bt bx,.sl bt' bx'] b ((st1.put tb (some (.map .sg es))).put b (some (.box [.raw (.int .i64 bv),.raw (.int .u8 ba),.raw (.map bm),.sl bt bx,.sl bt' bx'])))) ?_ ?_ _ _ _ _ _ _ rfl ?_
 ·intro listed ad fr st ds hz hJ i hi;replace hz:listed.size=6:=hz;obtain⟨h0,o,ho,hdep⟩:=mem_ready.1 hi;have his:i<6:=(Array.getElem?_eq_some_iff.1 ho).1;have hfl:listed.getD i false=false:=by
   rw[Array.getD_eq_getD_getElem?,Array.getElem?_eq_getElem (by omega)] at h0 ⊢;exact h0
  have e:∀j,i≠j->(listed.setIfInBounds i true).getD j false=listed.getD j false:=λj hj=>by rw[yQo (by omega),if_neg hj]
  have ei:(listed.setIfInBounds i true).getD i false=true:=by rw[yQo (by omega),if_pos rfl]
  obtain⟨had,rfl,rfl,f7,f8,f9,g0,g1,g2,f4,f5,g5⟩:=hJ;rcases (show i=0\/i=1\/i=2\/i=3\/i=4\/i=5 by omega) with rfl|rfl|rfl|rfl|rfl|rfl
  ·obtain rfl:_=o:=Option.some.inj ho;simp only[go_sem,zE,zB,zA,zM,zS,zL,reduceCtorEq,yQ5,had,f8];exact⟨yYl had _,rfl,rfl,f7,f8,f9,λ_=>rfl,λh=>g1 (by rwa [e 1 (by decide)] at h),λh=>g2 (by rwa [e 2 (by decide)] at h),by rw[e 3 (by decide)];exact f4,by rw[e 4 (by decide)];exact f5,λh=>g5 (by rwa [e 5 (by decide)] at h)⟩
  ·obtain rfl:_=o:=Option.some.inj ho;simp only[go_sem,zE,zB,zA,zM,zS,zL,reduceCtorEq,yQ5,had,f7,ptrI,ISt.put_same,blZ];exact⟨yYl had _,rfl,rfl,f7,f8,f9,λh=>g0 (by rwa [e 0 (by decide)] at h),λ_=>rfl,λh=>g2 (by rwa [e 2 (by decide)] at h),by rw[e 3 (by decide)];exact f4,by rw[e 4 (by decide)];exact f5,λh=>g5 (by rwa [e 5 (by decide)] at h)⟩
  ·obtain rfl:_=o:=Option.some.inj ho;simp only[go_sem,zE,zB,zA,zM,zS,zL,reduceCtorEq,yQ5,had,f9];exact⟨yYl had _,rfl,rfl,f7,f8,f9,λh=>g0 (by rwa [e 0 (by decide)] at h),λh=>g1 (by rwa [e 1 (by decide)] at h),λ_=>rfl,by rw[e 3 (by decide)];exact f4,by rw[e 4 (by decide)];exact f5,λh=>g5 (by rwa [e 5 (by decide)] at h)⟩
  ·obtain rfl:_=o:=Option.some.inj ho;replace g0:=g0 (hdep ⟨0,.data⟩ (by simp) rfl);simp only[go_sem,zE,zB,zA,zM,zS,zL,reduceCtorEq,yQ5,had,g0,f4,hfl,ndZ,fits,if_false,bFt];exact⟨had,rfl,rfl,f7,f8,f9,λ_=>g0,λh=>g1 (by rwa [e 1 (by decide)] at h),λh=>g2 (by rwa [e 2 (by decide)] at h),by rw[ei];rfl,by rw[e 4 (by decide)];exact f5,λh=>g5 (by rwa [e 5 (by decide)] at h)⟩
  ·obtain rfl:_=o:=Option.some.inj ho;replace g1:=g1 (hdep ⟨1,.data⟩ (by simp) rfl);simp only[go_sem,zE,zB,zA,zM,zS,zL,reduceCtorEq,yQ5,had,g1,f5,hfl,blZ,fits,if_false,bFt];exact⟨had,rfl,rfl,f7,f8,f9,λh=>g0 (by rwa [e 0 (by decide)] at h),λ_=>g1,λh=>g2 (by rwa [e 2 (by decide)] at h),by rw[e 3 (by decide)];exact f4,by rw[ei];rfl,λh=>g5 (by rwa [e 5 (by decide)] at h)⟩
  ·obtain rfl:_=o:=Option.some.inj ho;replace g2:=g2 (hdep ⟨2,.data⟩ (by simp) rfl);simp only[go_sem,zE,zB,zA,zM,zS,zL,reduceCtorEq,yQ5,had,g2];exact⟨yYl had _,rfl,rfl,f7,f8,f9,λh=>g0 (by rwa [e 0 (by decide)] at h),λh=>g1 (by rwa [e 1 (by decide)] at h),λ_=>g2,by rw[e 3 (by decide)];exact f4,by rw[e 4 (by decide)];exact f5,λ_=>rfl⟩
 ·intro listed ad fr st ds hz hr hJ;have hl:=zQ3 (by decide) hz hr;obtain⟨had,rfl,rfl,f7,f8,f9,g0,g1,g2,f4,f5,g5⟩:=hJ;rw[if_pos (hl 3 (by decide))] at f4;rw[if_pos (hl 4 (by decide))] at f5;have f6:=g5 (hl 5 (by decide));simp only[go_sem,zE,zB,zA,zM,zS,zL,reduceCtorEq,f4,f5,f6,fits];refine yQb (λc y hc=>?_) ⟨hout,rfl⟩;have h1:c≠b:=λh=>by rw[h,hb] at hc;cases hc
  have h2:c≠tb:=λh=>by
   rw[h] at hc;rw[hst1,yQ9 hbt.symm,hc] at htb;cases htb
  rw[yQ9 h1,yQ9 h2,hst1,yQ9 h1];exact hc
 ·exact⟨λ_=>rfl,rfl,rfl,rfl,rfl,rfl,(λh=>nomatch h),(λh=>nomatch h),(λh=>nomatch h),rfl,rfl,λh=>nomatch h⟩
theorem xXv (G:Gl gl)(s:Sq)(x:IV)(hx:IsSq s x)(hw:wFms s.l+wFms s.r<=300)(hv:yX9 s=true)(st:ISt) :
  ICall prog gl 9 [.raw (.int .u8 1),x] st (λr st'=>(∃(e:Int) (z:IV),r=.tup [z,.raw (.int .i64 e)]/\((e=0/\∃n,IsNd n z/\dfr z/\Grows n (yQp s)/\n.nodes<=300)\/e≠0/\z=.agg ndZ/\∀n,Grows n (yQp s)->300<n.nodes))/\st'=st):=by
 have hB:=λst=>wXo gl G s x hx hw hv st;obtain⟨tl,xl,tr,xr,rfl,e1,i1,e2,i2⟩:=hx;refine iI func9 ?_;simp only[go_sem,zE,zB,zA,zM,zS,zL,reduceCtorEq,fits];refine (hB _).mono ?_;rintro _ _ ⟨⟨e,z,bz,rfl,⟨_,_,_,_,_,_,_,rfl⟩,hout⟩,rfl⟩;obtain⟨v1,w1,o1,n1,t1,y1,t2,y2,c1,w2,t3,y3,rfl⟩:∃v1 w1 o1 n1 t1 y1 t2 y2 c1 w2 t3 y3,z=.agg [.raw (.bool v1),.raw (.int .i64 w1),.raw (.int .u8 o1),.raw (.string n1),.sl t1 y1,.sl t2 y2,.raw (.bool c1),.raw (.int .i64 w2),.sl t3 y3]:=by
  rcases hout with⟨_,n,hz,_⟩|⟨_,rfl,_⟩
  ·exact yXq hz
  ·exact⟨_,_,_,_,_,_,_,_,_,_,_,_,rfl⟩
 simp only[go_sem,zE,zB,zA,zM,zS,zL,reduceCtorEq,fits];exact yQ0 ⟨⟨_,_,rfl,hout⟩,rfl⟩
end Go.Proofs.Tryz
namespace Go.Proofs.Tryz
open Go Go.Iv
set_option maxRecDepth 8000
def xmP:Fm:=.mk 1 ⟨#[80]⟩ [] []
def xmQ:Fm:=.mk 1 ⟨#[81]⟩ [] []
def xmR:Fm:=.mk 1 ⟨#[82]⟩ [] []
def xmN:Fm:=.mk 3 ⟨#[]⟩ [] [xmP]
def xmO:Fm:=.mk 5 ⟨#[]⟩ [] [xmP,xmN]
def xmA:Fm:=.mk 4 ⟨#[]⟩ [] [xmP,xmQ]
def xmS:Sq:=⟨[],[xmO]⟩
def n3 (b:Bool):Nd:=.mk ⟨b,0,xmP⟩ true 0 []
def n2 (b:Bool):Nd:=.mk ⟨false,0,xmN⟩ false 0 [n3 b]
def n1 (b:Bool):Nd:=.mk ⟨false,0,xmO⟩ false 0 [n2 b]
def xmT:Tm:=.mk false ⟨#[]⟩ []
def xmW:Tr:=.mk 8 xmS xmO xmT ⟨#[]⟩ [.mk 4 ⟨[],[xmO,xmP,xmN]⟩ xmN xmT ⟨#[]⟩ [.mk 1 ⟨[xmP],[xmO,xmP,xmN]⟩ xmP xmT ⟨#[]⟩ []]]
def xmV:Tr:=.mk 8 xmS xmO xmT ⟨#[]⟩ [.mk 4 ⟨[],[xmP,xmN]⟩ xmN xmT ⟨#[]⟩ [.mk 1 ⟨[xmP],[xmP]⟩ xmP xmT ⟨#[]⟩ []]]
def xmX:Tr:=.mk 5 ⟨[xmR,xmA],[xmR]⟩ xmA xmT ⟨#[]⟩ [.mk 1 ⟨[xmP,xmQ,xmR,xmA],[xmR]⟩ xmR xmT ⟨#[]⟩ []]
def xmY:Tr:=.mk 1 ⟨[xmR],[xmR]⟩ xmR xmT ⟨#[]⟩ []
theorem xYg:yX9 xmS=true:=rfl
theorem xYi:yQp xmS=[⟨false,0,xmO⟩]:=rfl
theorem zYz:yK3 xmS (n1 false)=([],0):=rfl
theorem xYh:bigT (yQp xmS) (n1 false)=false:=rfl
theorem xXw:yJc (yQp xmS) (n1 false)=xmW:=rfl
theorem wXd:zQ7 xmW=n1 true:=rfl
theorem zYy:yXc 1 xmW=([],0):=xXw▸(uWf (by rw[zYz]) xYh).1
theorem wXe:xmW.cuts=0:=rfl
