/- Walks: join, numbers, line. -/
import Derived.Test.YtdbmgeebmfpmpaaGreatDoorQC
set_option linter.all false
open Nat renaming reduceEqDiff → zE,reduceBEq → zB,reduceAdd → zA,reduceMul → zM,reduceLeDiff → zL
namespace Go.Proofs.Tryz
open Go Go.Iv
set_option maxRecDepth 4000
variable (gl:Nat->Option IV)
theorem xQm (l:List Nat):(yQj l).flatMap IV.cells=yQj l:=by
 induction l with
 | nil=>rfl
 | cons a l ih =>
  show IV.cells _++(yQj l).flatMap IV.cells=_;rw[ih];rfl
theorem zGa (l:List Nat):∀y∈yQj l,fits false 1 y=true:=λy hy=>by
 obtain⟨n,_,rfl⟩:=List.mem_map.1 hy;simp[fits,IV.one]
def xYi (l:List Nat)(st:ISt)(r:IV)(st':ISt):Prop:=(∃t,r=.sl t (yQj l)/\okEs t 1)/\st'=st
theorem xQn {f:FuncId}{args:List IV}{l:List Nat}{st:ISt}(hl:l.length<=140737488355328)
  (h:ICall prog gl f args st (λr st'=>xYi l st r st'\/∃g cap cs,st g=none/\r=.raw (.slice (some ⟨g,0,none⟩) l.length cap)/\st'=st.put g (some (.box cs))/\l.length<=cap/\cap<=cs.length/\cs.take l.length=yQj l)):ICall prog gl f args st (xYi l st):=by
 refine ICall.fix1 (h.mono λr st' hr=>?_);rcases hr with hr|⟨g,cap,cs,h1,rfl,rfl,h2,h3,h4⟩
 ·exact .inl hr
 ·exact .inr ⟨g,l.length,cap,cs,1,yQj l,h1,rfl,rfl,yQt l,hl,h2,by omega,by rw[Nat.mul_one,h4,xQm],λz hz=>vWi (zGa l z hz),⟨_,rfl,.inr rfl⟩,rfl⟩
theorem wYz (T:Gt gl)(a b:List Nat)(ta tb:Tag)(hta:okEs ta 1)(htb:okEs tb 1)(hl:a.length+b.length<=1000000)(st:ISt) :
  ICall prog gl 179 [.sl ta (yQj a),.sl tb (yQj b)] st (xYi (sdN (a++b)) st):=by
 have hsl:=zJd (a++b);rw[lLa] at hsl;have hcat:catL [(ta,yQj a),(tb,yQj b)]=yQj (a++b):=by simp[catL,zGb]
 have hcl:(catL [(ta,yQj a),(tb,yQj b)]).length=(a++b).length:=by rw[hcat,yQt]
 refine xQn gl (by omega) ?_;refine iI func179 ?_;simp only[go_sem,zE,zA,zM,zL,reduceCtorEq,fits];refine yQm rfl ?_;refine (wKh gl [(ta,yQj a),(tb,yQj b)] _ (.inr rfl) (λp hp y hy=>?_) (by rw[hcl,lLa];omega) _).mono ?_
 ·rcases List.mem_cons.1 hp with rfl|hp
  ·exact zGa a y hy
  ·obtain rfl:=List.mem_singleton.1 hp;exact zGa b y hy
 ·rintro _ _ (⟨t,rfl,ht,hn,rfl⟩|⟨g,cap,cs,hg,h1,h2,h3,rfl,rfl⟩)
  ·have hab:a++b=[]:=List.eq_nil_of_length_eq_zero (by rw[<- hcl,hn];rfl);rw[hab];simp only[go_sem,zA];refine (zZx gl t ht _).mono ?_;rintro _ _ ⟨rfl,rfl⟩;simp only[go_sem,zE,zA];refine (zQn gl t ht _).mono ?_;rintro _ _ ⟨⟨t',rfl,ht'⟩,rfl⟩;simp only[go_sem];exact yQ0 (.inl ⟨⟨t',rfl,.inl ht'⟩,rfl⟩)
  ·rw[hcl] at h1 h3;rw[hcat,xQm] at h3;rw[hcl];have hcs:cs=yQj (a++b)++cs.drop (a++b).length:=by rw[<- h3,List.take_append_drop]
   have hsort:=xZj gl T (a++b) (cs.drop (a++b).length) g cap (st.put g (some (.box cs))) (by rw[lLa];omega) (by rw[ISt.put_same,<- hcs]);simp only[go_sem,zA];refine hsort.mono ?_;rintro _ _ ⟨rfl,m,hp,hs,rfl⟩;have hml:=hp.length_eq;have hcom:=zY4 gl m (cs.drop (a++b).length) (by rw[hml,lLa];omega) g cap (by rw[hml];exact h1) ((st.put g (some (.box cs))).put g (some (.box (yQj m++cs.drop (a++b).length)))) (ISt.put_same ..);rw[hml] at hcom;simp only[go_sem,zE,zA];refine hcom.mono ?_;rintro _ _ ⟨cs2,rfl,rfl,hl2,ht2,hk2⟩;rw[wGd hp hs] at ht2 hk2 ⊢;rw[yQ6,yQ6];simp only[go_sem];refine yQ0 (.inr ⟨g,cap,cs2,hg,rfl,rfl,by omega,?_,ht2⟩);rw[hl2,lLa,yQt,List.length_drop,hml];omega
def OwnI (st:ISt)(l:List Nat)(x:IV)(st':ISt):Prop:=(l=[]/\x=.sl ⟨true,.nil,0⟩ []/\st'=st) \/
 ∃g cap cs,l≠[]/\st g=none/\l.length<=cap/\cap<=cs.length/\cs.take l.length=yQj l/\x=.raw (.slice (some ⟨g,0,none⟩) l.length cap)/\st'=st.put g (some (.box cs))
theorem wUl {st:ISt}{g g':Nat}{o o':Option IObj}(hg:st g=none):((st.put g o).put g none).put g' o'=st.put g' o':=by
 funext c;simp only[ISt.put_apply];split
 ·rfl
 ·split
  ·subst_vars;exact hg.symm
  ·rfl
theorem wVk {st:ISt}{g g':Nat}{o:Option IObj}(hg:st g=none)(h:g'=g\/(st.put g o) g'=none):st g'=none:=by
 rcases h with rfl|h
 ·exact hg
 ·rw[ISt.put_apply] at h;split at h
  ·rename_i h';rw[h'];exact hg
  ·exact h
abbrev spI (ca:Nat)(tw:Tag)(xw:List IV)(m:Nat):IV:=.cptr (.agg [.raw (.int .u8 (ca:Int)),.sl tw xw,.raw (.map (some m))])
theorem xQ4 (T:Gt gl)(ca m:Nat)(W:List Fm)(tw:Tag)(xw:List IV)(htw:okEs tw 4)(hxw:IsFms W xw)(hW:Srt W)(hWl:W.length<=1000000)(l:List Fm)(tg:Tag)(xs:List IV)(htg:okEs tg 4)(hx:IsFms l xs)(hl:l.length<=1000000)(hin:∀f∈l,f∈W)(st:ISt) :
  ICall prog gl 100 [spI ca tw xw m,.sl tg xs] st (xYi (zJs W l) st):=by
 have hnl:(zJs W l).length<=l.length:=by
  have:=zJd (l.map (noW W))
  rwa [List.length_map] at this
 refine xQn gl (by omega) ?_;refine ICall.intro (c:=cf prog gl [29] []) func100 rfl (by show _<=35;simp) (by kernel_rfl) ?_;simp only[go_sem,zE,hx.len];intro _;refine LoopC.ctr l.length (λk fr st' ds=>(∃x,fr 5=.iv x/\OwnI st ((l.take k).map (noW W)) x st')/\fr 0=.iv (spI ca tw xw m)/\fr 10=.iv (.sl tg xs)/\fr 11=.iv (.raw (.int .i64 l.length))/\fr 12=.iv (.raw (.int .i64 (k:Int)))/\ds=[]) ?_ ?_ ?_
 ·simp only[go_sem,zE,reduceCtorEq];exact⟨⟨_,rfl,.inl ⟨rfl,rfl,rfl⟩⟩,rfl⟩
 ·rintro k fr st1 _ hlt ⟨⟨x,f5,hox⟩,f0,f10,f11,f12,rfl⟩;obtain⟨a,ha⟩:=yQ1 hlt;obtain⟨y,hky,hya⟩:=hx.get ha;have haW:=hin a (lMg ha);have hcall:=λst=>kQf gl W tw xw htw hxw hW (by omega) a y hya st;obtain⟨y1,y2,y3,y4,y5,y6,rfl⟩:=hya.agg;simp only[go_sem,zE,zB,zA,zL,reduceCtorEq,f0,f10,f11,f12,lt_i hlt,yQ4 htg,iNn,hky,fits];refine (hcall _).mono ?_;rintro _ st2 ⟨⟨i,b,rfl,hb1,hb2⟩,rfl⟩;obtain rfl:b=true:=hb1.2 haW;have hi:=vK3 hW (hb2 rfl);have htk:(l.take (k+1)).map (noW W)=(l.take k).map (noW W)++[i]:=by rw[yQ8 ha,List.map_append,<- hi];rfl
  have hkl:((l.take k).map (noW W)).length=k:=by rw[List.length_map,List.length_take];omega
  rcases hox with⟨h0,rfl,rfl⟩|⟨g,cap,cs,h0,hg,h1,h2,h3,rfl,rfl⟩
  ·simp only[go_sem,zE,zA,zM,zL,f5,fits,yQ3];intro g cap;refine yQ9 λhg=>?_;obtain⟨hg,hcap⟩:=hg;simp only[go_sem,zE,reduceCtorEq,f0,f10,f11,f12,yQd hlt (show l.length<=281474976710656 by omega)];refine⟨_,rfl,.inr ⟨g,cap,_,?_,hg,?_,?_,?_,?_,rfl⟩⟩
   ·rw[htk];simp
   ·rw[htk,h0];exact hcap
   ·rw[lLa,List.length_replicate];show cap<=1+(cap-1)*1;omega
   ·rw[htk,h0];rfl
   ·rw[htk,h0];rfl
  ·simp only[go_sem,zE,zA,zM,zL,f5,fits,yQ3];refine yZv _ _ _ (ISt.put_same ..) (by simp[fits,IV.one]) ⟨by show (_+1)*8<=_;omega,by show _+1<=_;omega⟩ ⟨h1,by simpa using h2⟩ (by simp[IV.cells]) ?_;intro g' cap' cs' hg' q1 q2 q3;simp only[Nat.mul_one] at q2 q3;rw[wUl hg];simp only[go_sem,zE,reduceCtorEq,f0,f10,f11,f12,yQd hlt (show l.length<=281474976710656 by omega)];refine⟨_,rfl,.inr ⟨g',cap',cs',?_,wVk hg hg',?_,q2,?_,?_,rfl⟩⟩
   ·rw[htk];simp
   ·rw[htk,lLa];exact q1
   ·rw[htk,lLa,zGb,<- h3];exact q3
   ·rw[htk,lLa];rfl
 ·rintro fr st1 _ ⟨⟨x,f5,hox⟩,f0,f10,f11,f12,rfl⟩;rw[lTl] at hox;rcases hox with⟨h0,rfl,rfl⟩|⟨g,cap,cs,h0,hg,h1,h2,h3,rfl,rfl⟩
  ·have hn:zJs W l=[]:=by unfold zJs;rw[h0];rfl
   rw[hn];simp only[go_sem,zE,zA,f5,f11,f12,yQl (nLi _)];refine (zZx gl _ rfl _).mono ?_;rintro _ _ ⟨rfl,rfl⟩;simp only[go_sem,zE,zA,f5];refine (zQn gl _ rfl _).mono ?_;rintro _ _ ⟨⟨t',rfl,ht'⟩,rfl⟩;simp only[go_sem];exact yQ0 (.inl ⟨⟨t',rfl,.inl ht'⟩,rfl⟩)
  ·have hml0:(l.map (noW W)).length=l.length:=List.length_map ..;have hcs:cs=yQj (l.map (noW W))++cs.drop (l.map (noW W)).length:=by rw[<- h3,List.take_append_drop]
   have hsort:=xZj gl T (l.map (noW W)) (cs.drop (l.map (noW W)).length) g cap (st.put g (some (.box cs))) (by omega) (by rw[ISt.put_same,<- hcs]);simp only[go_sem,zE,zA,f5,f11,f12,yQl (nLi _)];refine hsort.mono ?_;rintro _ _ ⟨rfl,q,hp,hs,rfl⟩;have hml:=hp.length_eq;have hcom:=zY4 gl q (cs.drop (l.map (noW W)).length) (by omega) g cap (by omega) ((st.put g (some (.box cs))).put g (some (.box (yQj q++cs.drop (l.map (noW W)).length)))) (ISt.put_same ..);rw[hml] at hcom;simp only[go_sem,zE,zA,f5];refine hcom.mono ?_;rintro _ _ ⟨cs2,rfl,rfl,hl2,ht2,hk2⟩;rw[wGd hp hs] at ht2 hk2 ⊢;rw[yQ6,yQ6];simp only[go_sem];refine yQ0 (.inr ⟨g,cap,cs2,hg,rfl,rfl,?_,?_,ht2⟩)
   ·change (sdN (l.map (noW W))).length<=cap;omega
   ·rw[hl2,lLa,yQt,List.length_drop,hml];omega
def IsLn (ln:Ln)(x:IV):Prop:=∃t1 t2,x=.agg [.sl t1 (yQj ln.1),.sl t2 (yQj ln.2)]/\okEs t1 1/\okEs t2 1
theorem xVw (T:Gt gl)(ca m:Nat)(W:List Fm)(tw:Tag)(xw:List IV)(htw:okEs tw 4)(hxw:IsFms W xw)(hW:Srt W)(hWl:W.length<=1000000)(s:Sq)(x:IV)(hx:IsSq s x)(hl:s.l.length<=1000000/\s.r.length<=1000000)(hin:InW W (s.l,s.r))(st:ISt) :
  ICall prog gl 75 [spI ca tw xw m,x] st (λr st'=>IsLn (zG4 W (s.l,s.r)) r/\st'=st):=by
 obtain⟨t1,x1,t2,x2,rfl,e1,i1,e2,i2⟩:=hx;have h1:=λst=>xQ4 gl T ca m W tw xw htw hxw hW hWl s.l t1 x1 e1 i1 hl.1 hin.1 st;have h2:=λst=>xQ4 gl T ca m W tw xw htw hxw hW hWl s.r t2 x2 e2 i2 hl.2 hin.2 st;refine ICall.intro (c:=cf prog gl [] [(1,[0,1,2,4,5,6,3,7,8,9])]) func75 rfl (by show _<=14;simp) (by kernel_rfl) ?_;simp only[go_sem,zE,zA,reduceCtorEq];refine (h1 _).mono ?_;rintro _ _ ⟨⟨t3,rfl,e3⟩,rfl⟩;simp only[go_sem,zE,zA];refine (h2 _).mono ?_;rintro _ _ ⟨⟨t4,rfl,e4⟩,rfl⟩;simp only[go_sem,zE,zA,zL,fits];exact yQ0 ⟨⟨t3,t4,rfl,e3,e4⟩,rfl⟩
end Go.Proofs.Tryz
namespace Go.Proofs.Tryz
open Go Go.Iv
theorem vJv {ca:Nat}(hc:ca≠3)(f:Fm):f.ok=true->opsB ca f=true->PF f:=by
 refine xWr (p:=λf=>f.ok=true->opsB ca f=true->PF f) (λo n us sub ih h1 h2=>?_) f;simp only[Fm.ok,bAt] at h1;obtain⟨⟨hrow,_⟩,hok⟩:=h1;simp only[opsB,bAt,Bool.or_eq_true,dTe,if_neg hc] at h2;obtain⟨⟨⟨ho1,ho7⟩,hus⟩,hops⟩:=h2;have hus:us=[]:=List.isEmpty_iff.1 (hus.resolve_left hc);subst hus;have hsub:∀a∈sub,PF a:=by
  have key:∀l:List Fm,(∀a∈l,a∈sub)->yY0 l=true->yVz ca l=true->∀a∈l,PF a:=λl=>by
   induction l with
   | nil=>intro _ _ _ a ha;cases ha
   | cons b l ihl =>
    intro hm h1 h2 a ha;simp only[yY0,yVz,bAt] at h1 h2;rcases List.mem_cons.1 ha with rfl|ha
    ·exact ih a (hm a (.head _)) h1.1 h2.1
    ·exact ihl (λx hx=>hm x (.tail _ hx)) h1.2 h2.2 a ha
  exact key sub (λ_ h=>h) hok hops
 have ho:o=1\/o=2\/o=3\/o=4\/o=5\/o=6\/o=7:=by omega
 rcases ho with rfl|rfl|rfl|rfl|rfl|rfl|rfl<;>simp only[yJq,bAt,dTe] at hrow
 ·obtain rfl:sub=[]:=List.eq_nil_of_length_eq_zero hrow.2;exact .atom n
 ·obtain rfl:sub=[]:=List.eq_nil_of_length_eq_zero hrow.2;rw[hrow.1.1];exact .fls
 ·match sub,hrow.2 with
  | [a],_=>rw[hrow.1.1];exact .neg (hsub a (.head _))
 all_goals
  match sub,hrow.2 with
  | [a,b],_=>rw[hrow.1.1];exact .bin (by omega) (by omega) (hsub a (.head _)) (hsub b (.tail _ (.head _)))
theorem zUz {ca:Nat}(hc:ca≠3){f:Fm}(h:fmB ca f=true):PF f:=by
 unfold fmB Fm.right at h;simp only[bAt] at h;exact vJv hc f h.1.1.1 h.2
theorem wJ1 {ca:Nat}{n:ByteArray}{us:List Tm}{a:Fm}(h:fmB ca (.mk 3 n us [a])=true):fmB ca a=true:=by
 unfold fmB Fm.right at *;simp only[bAt,dTe,Fm.ok,yY0,opsB,yVz,Fm.size,yQb,Fm.deep,yZ5] at *;obtain⟨⟨⟨⟨_,k1,_⟩,k2⟩,k3⟩,_,k4,_⟩:=h;have k2:=of_decide_eq_true k2;have k3:=of_decide_eq_true k3;exact⟨⟨⟨k1,by omega⟩,by omega⟩,k4⟩
theorem wJ2 {ca o:Nat}(ho:o≠3/\4<=o/\o<=7){n:ByteArray}{us:List Tm}{a b:Fm}(h:fmB ca (.mk o n us [a,b])=true):fmB ca a=true/\fmB ca b=true/\fmB ca (imF a b)=true/\fmB ca (imF b a)=true:=by
 have key:∀k,yJq k noN 0 2=true↔k=4\/k=5\/k=6\/k=7\/k=14:=λk=>by
  unfold yJq;split<;>simp_all
 unfold fmB Fm.right at *;simp only[bAt,dTe,Fm.ok,yY0,opsB,yVz,Fm.size,yQb,Fm.deep,yZ5,yYe,yQf,yQu,List.length_cons,List.length_nil,Nat.zero_add,Nat.reduceAdd,List.isEmpty_nil,Bool.or_true] at *;have h6:yJq 6 noN 0 2=true:=(key 6).2 (by omega);obtain⟨⟨⟨⟨⟨_,_⟩,k1,k2,_⟩,k3⟩,k4⟩,⟨⟨k5,k6⟩,k7⟩,k8,k9,_⟩:=h;have hle:6<=(if ca=3 then 9 else 7):=by split<;>omega
 have k3:=of_decide_eq_true k3;have k4:=of_decide_eq_true k4;exact⟨⟨⟨⟨k1,by omega⟩,by omega⟩,k8⟩,⟨⟨⟨k2,by omega⟩,by omega⟩,k9⟩,⟨⟨⟨⟨⟨h6,trivial⟩,k1,k2,trivial⟩,by omega⟩,dEt (by omega)⟩,⟨⟨by omega,hle⟩,trivial⟩,k8,k9,trivial⟩,⟨⟨⟨⟨⟨h6,trivial⟩,k2,k1,trivial⟩,by omega⟩,dEt (by omega)⟩,⟨⟨by omega,hle⟩,trivial⟩,k9,k8,trivial⟩⟩
def yJx (j:Bool)(op:Nat)(r:Bool):List Nat :=
 if op=3 then (if r=true then [4] else [3]) else if op=4 then (if r=true then [6] else [5])
 else if op=5 then (if r=true then (if j=true then [8,18] else [8]) else [7]) else if op=6 then (if r=true then [10] else [9])
 else if op=7 then (if r=true then [12] else [11]) else []
abbrev calJ (ca:Nat):Bool:=decide (ca=2)
abbrev tmZ:Tm:=.mk false noN []
def sqOf (p:Sn):Sq:=⟨p.1,p.2⟩
theorem yGl {ca:Nat}{f:Fm}(hf:PF f)(r:Bool):(addF (calJ ca) f r).map (·.1)=yJx (calJ ca) f.op r:=by
 cases hf with
 | atom n=>simp[addF,yJx,Fm.op]
 | fls=>simp[addF,yJx,Fm.op]
 | neg h=>cases r<;>simp[addF,yJx,Fm.op]
 | @bin o a b h4 h7 _ _ =>
  obtain rfl|rfl|rfl|rfl:o=4\/o=5\/o=6\/o=7:=by omega
  all_goals cases r<;>simp[addF,yJx,Fm.op]
  by_cases h:ca=2<;>simp[h]
theorem xZh {ca:Nat}(hc:ca=1\/ca=2){f:Fm}(h:fmB ca f=true){r:Bool}{t:Nat×List Sn}(ht:t∈addF (calJ ca) f r):zZz ca t.1 f tmZ noN=(t.2.map sqOf,0):=by
 have hc3:ca≠3:=by omega
 have hk:yJ5 ca=true:=by unfold yJ5;rcases hc with rfl|rfl<;>rfl
 have key:∀R:Rw,rowS ca t.1=some R->f.op=R.op->R.asks=0->zZz ca t.1 f tmZ noN=(addS ca t.1 f ((f.subs[0]?).getD fm0) ((f.subs[1]?).getD fm0),0):=λR h1 h2 h3=>by
  unfold zZz;rw[hk,h1];exact xYe h (.inr h2) |>.trans (by rw[if_pos h3])
 have hpf:=zUz hc3 h;cases hpf with
 | atom n=>simp[addF] at ht
 | fls=>simp[addF] at ht
 | neg ha =>
  cases r<;>simp[addF] at ht<;>subst ht<;>rw[key _ (by unfold rowS;rcases hc with rfl|rfl<;>rfl) rfl rfl]<;>rfl
 | @bin o a b h4 h7 _ _ =>
  obtain rfl|rfl|rfl|rfl:o=4\/o=5\/o=6\/o=7:=by omega
  all_goals rcases hc with rfl|rfl<;>cases r<;>simp[addF,calJ] at ht
  all_goals first
   | (subst ht;rw[key _ rfl rfl rfl];rfl)
   | (rcases ht with rfl|rfl<;>(rw[key _ rfl rfl rfl];rfl))
theorem vQo {ca:Nat}(hc:ca≠3){f:Fm}(h:fmB ca f=true){j r:Bool}{t:Nat×List Sn}(ht:t∈addF j f r):∀p∈t.2,(∀g∈p.1,fmB ca g=true)/\∀g∈p.2,fmB ca g=true:=by
 have hpf:=zUz hc h;cases hpf with
 | atom n=>simp[addF] at ht
 | fls=>simp[addF] at ht
 | neg ha =>
  have:=wJ1 h;cases r<;>simp[addF] at ht<;>subst ht<;>simp[this]
 | @bin o a b h4 h7 _ _ =>
  obtain⟨k1,k2,k3,k4⟩:=wJ2 ⟨by omega,h4,h7⟩ h;obtain rfl|rfl|rfl|rfl:o=4\/o=5\/o=6\/o=7:=by omega
  all_goals cases r<;>cases j<;>simp[addF] at ht
  all_goals first|(subst ht;simp[k1,k2,k3,k4])|(rcases ht with rfl|rfl<;>simp[k1,k2])
structure SpOk (ca:Nat)(W:List Fm):Prop where
 cal:ca=1\/ca=2
 srt:Srt W
 len:W.length<=1000000
 fm:∀f∈W,fmB ca f=true
 full:Full W
theorem SpOk.sub {ca:Nat}{W:List Fm}(h:SpOk ca W){f:Fm}(hf:f∈W){j r:Bool}{t:Nat×List Sn}(ht:t∈addF j f r){p:Sn}(hp:p∈t.2):InW W p:=h.full f hf j r t ht p hp
theorem SpOk.pf {ca:Nat}{W:List Fm}(h:SpOk ca W){f:Fm}(hf:f∈W):PF f:=zUz (by have:=h.cal;omega) (h.fm f hf)
theorem SpOk.size {ca:Nat}{W:List Fm}(h:SpOk ca W){f:Fm}(hf:f∈W):f.size<=400:=by
 have:=h.fm f hf;unfold fmB Fm.right at this;simp only[bAt,dTe] at this;exact this.1.1.2
end Go.Proofs.Tryz
namespace Go.Proofs.Tryz
open Go Go.Iv
set_option maxRecDepth 4000
variable (gl:Nat->Option IV)
def u8I (l:List Nat):List IV:=l.map λ(n:Nat)=>.raw (.int .u8 (n:Int))
theorem xGt (a b:Operand):yKv 2 [(0,a),(1,b)]=true:=rfl
theorem wV0 (ca m:Nat)(tw:Tag)(xw:List IV)(op:Nat)(r:Bool)(st:ISt) :
  ICall prog gl 177 [spI ca tw xw m,.raw (.int .u8 (op:Int)),.raw (.bool r)] st (λx st'=>(∃t,x=.sl t (u8I (yJx (calJ ca) op r))/\okEs t 1)/\st'=st):=by
 have d:∀c:Nat,decide ((op:Int)=(c:Int))=decide (op=c):=λc=>decide_eq_decide.2 (by omega);have d3:decide ((op:Int)=3)=decide (op=3):=d 3;have d4:decide ((op:Int)=4)=decide (op=4):=d 4;have d5:decide ((op:Int)=5)=decide (op=5):=d 5;have d6:decide ((op:Int)=6)=decide (op=6):=d 6;have d7:decide ((op:Int)=7)=decide (op=7):=d 7;have dc:decide ((ca:Int)=2)=calJ ca:=decide_eq_decide.2 (by omega);unfold yJx;refine iI func177 ?_;by_cases h3:op=3
 ·rw[if_pos h3];cases r
  ·simp only[go_sem,zE,zM,zL,reduceCtorEq,d3,dEt h3,fits,yQ3];exact yQ0 ⟨⟨_,rfl,.inr rfl⟩,rfl⟩
  ·simp only[go_sem,zE,zM,zL,d3,dEt h3,fits,yQ3];exact yQ0 ⟨⟨_,rfl,.inr rfl⟩,rfl⟩
 ·by_cases h4:op=4
  ·rw[if_neg h3,if_pos h4];cases r
   ·simp only[go_sem,zE,zM,zL,reduceCtorEq,d3,d4,dEf h3,dEt h4,fits,yQ3];exact yQ0 ⟨⟨_,rfl,.inr rfl⟩,rfl⟩
   ·simp only[go_sem,zE,zM,zL,d3,d4,dEf h3,dEt h4,fits,yQ3];exact yQ0 ⟨⟨_,rfl,.inr rfl⟩,rfl⟩
  ·by_cases h5:op=5
   ·rw[if_neg h3,if_neg h4,if_pos h5];cases r
    ·simp only[go_sem,zE,zM,zL,reduceCtorEq,d3,d4,d5,dEf h3,dEf h4,dEt h5,fits,yQ3];exact yQ0 ⟨⟨_,rfl,.inr rfl⟩,rfl⟩
    ·cases hj:calJ ca
     ·simp only[go_sem,zE,zM,zL,reduceCtorEq,d3,d4,d5,dEf h3,dEf h4,dEt h5,fits,yQ3,dc,hj];exact yQ0 ⟨⟨_,rfl,.inr rfl⟩,rfl⟩
     ·simp only[go_sem,zE,zM,zL,reduceCtorEq,d3,d4,d5,dEf h3,dEf h4,dEt h5,fits,xGt,dc,hj];exact yQ0 ⟨⟨_,rfl,.inr rfl⟩,rfl⟩
   ·by_cases h6:op=6
    ·rw[if_neg h3,if_neg h4,if_neg h5,if_pos h6];cases r
     ·simp only[go_sem,zE,zM,zL,reduceCtorEq,d3,d4,d5,d6,dEf h3,dEf h4,dEf h5,dEt h6,fits,yQ3];exact yQ0 ⟨⟨_,rfl,.inr rfl⟩,rfl⟩
     ·simp only[go_sem,zE,zM,zL,d3,d4,d5,d6,dEf h3,dEf h4,dEf h5,dEt h6,fits,yQ3];exact yQ0 ⟨⟨_,rfl,.inr rfl⟩,rfl⟩
    ·by_cases h7:op=7
     ·rw[if_neg h3,if_neg h4,if_neg h5,if_neg h6,if_pos h7];cases r
      ·simp only[go_sem,zE,zM,zL,reduceCtorEq,d3,d4,d5,d6,d7,dEf h3,dEf h4,dEf h5,dEf h6,dEt h7,fits,yQ3];exact yQ0 ⟨⟨_,rfl,.inr rfl⟩,rfl⟩
      ·simp only[go_sem,zE,zM,zL,d3,d4,d5,d6,d7,dEf h3,dEf h4,dEf h5,dEf h6,dEt h7,fits,yQ3];exact yQ0 ⟨⟨_,rfl,.inr rfl⟩,rfl⟩
     ·rw[if_neg h3,if_neg h4,if_neg h5,if_neg h6,if_neg h7];simp only[go_sem,zE,d3,d4,d5,d6,d7,dEf h3,dEf h4,dEf h5,dEf h6,dEf h7];exact yQ0 ⟨⟨_,rfl,.inl rfl⟩,rfl⟩
@[go_sem] theorem vKd:mapI prog 171=some (.pl,.sl ⟨true,.nil,0⟩ []):=by kernel_rfl
def AllR {α:Type}(R:α->IV->Prop)(l:List α)(xs:List IV):Prop:=xs.length=l.length/\∀(i:Nat) (a:α),l[i]?=some a->∃x,xs[i]?=some x/\R a x
theorem AllR.nil {α:Type}{R:α->IV->Prop}:AllR R [] []:=⟨rfl,λi a h=>by simp at h⟩
theorem AllR.snoc {α:Type}{R:α->IV->Prop}{l:List α}{xs:List IV}{a:α}{x:IV}(h:AllR R l xs)(hx:R a x):AllR R (l++[a]) (xs++[x]):=by
 refine⟨by simp[h.1],λi b hb=>?_⟩;rcases Nat.lt_or_ge i l.length with hi|hi
 ·rw[List.getElem?_append_left hi] at hb;rw[List.getElem?_append_left (by rw[h.1];exact hi)];exact h.2 i b hb
 ·rw[List.getElem?_append_right hi] at hb;rw[List.getElem?_append_right (by rw[h.1];exact hi),h.1];cases hk:i-l.length with
  | zero=>rw[hk] at hb;cases hb;exact⟨x,rfl,hx⟩
  | succ n=>rw[hk] at hb;simp at hb
def IsEx (e:Ex)(x:IV):Prop:=∃t1 t2,x=.agg [.sl t1 (yQj e.1.1),.sl t2 (yQj e.1.2),.raw (.int .i64 (e.2.1:Int)),.raw (.int .i64 (e.2.2:Int))]/\okEs t1 1/\okEs t2 1
abbrev Tn:=Nat×List Ex
def IsTn (t:Tn)(x:IV):Prop:=∃tt ys,x=.agg [.raw (.int .u8 (t.1:Int)),.sl tt ys]/\okEs tt 4/\AllR IsEx t.2 ys
def wY8 (l:List Tn)(x:IV):Prop:=∃t ys,x=.sl t ys/\okEs t 2/\AllR IsTn l ys
noncomputable def yZr (W:List Fm)(j:Bool)(f:Fm)(r:Bool):List Tn:=(addF j f r).map λt=>(t.1,t.2.map (exW W))
def plV (i:Nat)(r:Bool):Value:=.agg #[.int .i64 (i:Int),.bool r]
def CacheOk (ca:Nat)(W:List Fm)(es:List (Value×IV)):Prop:=∀p∈es,∃i r f,p.1=plV i r/\W[i]?=some f/\wY8 (yZr W (calJ ca) f r) p.2
theorem xWy {i:Nat}{r:Bool}{x:IV}:∀ {es:List (Value×IV)},yXy (plV i r) es=some x->(∀p∈es,∃(i:Nat) (r:Bool),p.1=plV i r)->(plV i r,x)∈es
 | [],h,_=>by cases h
 | (k,v)::es,h,hes=>by
  obtain⟨i',r',hk⟩:=hes _ (.head _);simp only at hk;subst hk;simp only[yXy] at h;have hq:yKt (plV i r) (plV i' r')=(decide ((i:Int)=i')&&decide (r=r')):=rfl;rw[hq] at h;by_cases hc:(i:Int)=i'/\r=r'
  ·obtain⟨h1,h2⟩:=hc;obtain rfl:i=i':=by omega
   subst h2;simp at h;subst h;exact .head _
  ·rw[if_neg (by simpa using hc)] at h;exact .tail _ (xWy h λp hp=>hes p (.tail _ hp))
theorem xKq {k:Value}{v:IV}:∀ {es:List (Value×IV)} {p:Value×IV},p∈updI k v es->p=(k,v)\/p∈es
 | [],p,h=>.inl (List.mem_singleton.1 h)
 | (x,u)::es,p,h=>by
  simp only[updI] at h;split at h
  ·rcases List.mem_cons.1 h with h|h
   ·exact .inl h
   ·exact .inr (.tail _ h)
  ·rcases List.mem_cons.1 h with h|h
   ·exact .inr (by rw[h];exact .head _)
   ·exact (xKq h).imp id (.tail _)
theorem CacheOk.upd {ca:Nat}{W:List Fm}{es:List (Value×IV)}(h:CacheOk ca W es){i:Nat}{r:Bool}{f:Fm}{x:IV}(hf:W[i]?=some f)(hx:wY8 (yZr W (calJ ca) f r) x):CacheOk ca W (updI (plV i r) x es):=λp hp=>by
 rcases xKq hp with rfl|hp
 ·exact⟨i,r,f,rfl,hf,hx⟩
 ·exact h p hp
theorem xYn {st st':ISt}{m:Nat}{o:Option IObj}(h:subSt st st'):subSt (st.put m o) (st'.put m o):=λc x hc=>by
 rw[ISt.put_apply] at hc ⊢;split
 ·rename_i hcm;rw[if_pos hcm] at hc;exact hc
 ·rename_i hcm;rw[if_neg hcm] at hc;exact h c x hc
theorem xYh {j r:Bool}{f:Fm}{t:Nat×List Sn}(h:t∈addF j f r):∀p∈t.2,p.1.length<=2/\p.2.length<=2:=by
 unfold addF at h;split at h<;>(try split at h)<;>simp at h<;>first|(subst h;simp)|(rcases h with rfl|rfl<;>simp)
theorem zU1 {j r:Bool}{f:Fm}{t:Nat×List Sn}(h:t∈addF j f r):t.2.length<=2:=by
 unfold addF at h;split at h<;>(try split at h)<;>simp at h<;>first|(subst h;simp)|(rcases h with rfl|rfl<;>simp)
theorem vV3 {f:Fm}{n:Nat}{l:List IV}(h:IsFm f (.agg (.raw (.int .u8 (n:Int))::l))):n=f.op:=by
 obtain⟨o,nn,us,sub⟩:=f;obtain⟨t,xs,t',ys,he,_⟩:=h.mk;simp only[IV.agg.injEq,List.cons.injEq,IV.raw.injEq,Value.int.injEq,true_and] at he;exact Int.ofNat.inj he.1
theorem vJ3 (G:Gl gl)(T:Gt gl)(ca m:Nat)(W:List Fm)(hS:SpOk ca W)(tw:Tag)(xw:List IV)(htw:okEs tw 4)(hxw:IsFms W xw)(i:Nat)(r:Bool)(f:Fm)(hf:W[i]?=some f)(es:List (Value×IV))(hes:CacheOk ca W es)(st:ISt)(hm:st m=some (.map .pl es)) :
  ICall prog gl 137 [spI ca tw xw m,.agg [.raw (.int .i64 (i:Int)),.raw (.bool r)]] st (λx st'=>wY8 (yZr W (calJ ca) f r) x/\∃es',CacheOk ca W es'/\st'=st.put m (some (.map .pl es'))):=by
 have hil:i<W.length:=(lGs hf).1;have hWl:=hS.len;have hfW:=lMg hf;have hfB:=hS.fm f hfW;obtain⟨y,hky,hy⟩:=hxw.get hf;have hki:yQy .pl (plV i r)=true:=by
  show (decide (-9223372036854775808<=(i:Int))&&decide ((i:Int)<=9223372036854775807))=true;rw[bAt,dTe,dTe];omega
 refine ICall.intro (c:=cf prog gl [] [(14,[0,1,2,3,5,6,7,8,9,10,4,11,12,13,14,15])]) func137 rfl (by show _<=94;simp) (by kernel_rfl) ?_;have hfi:∀o:Option IV,yXy (.agg #[.int .i64 (i:Int),.bool r]) es=o->∀x,o=some x->wY8 (yZr W (calJ ca) f r) x:=λo ho x hx=>by
  subst hx;have hmem:=xWy (i:=i) (r:=r) ho λp hp=>by obtain⟨i',r',f',h1,_⟩:=hes p hp;exact⟨i',r',h1⟩
  obtain⟨i',r',f',h1,h2,h3⟩:=hes _ hmem;have h1:plV i r=plV i' r':=h1;simp only[plV,Value.agg.injEq,Array.mk.injEq,List.cons.injEq,Value.int.injEq,true_and,Value.bool.injEq,and_true] at h1;obtain⟨h4,rfl⟩:=h1;obtain rfl:i=i':=by omega
  rw[hf] at h2;cases h2;exact h3
 simp only[go_sem,zE,zA,zL,reduceCtorEq,fits,hm,show yQy .pl (.agg #[.int .i64 (i:Int),.bool r])=true from hki];cases hq:yXy (.agg #[.int .i64 (i:Int),.bool r]) es with
 | some x =>
  obtain⟨t,ys,rfl,ht,hys⟩:=hfi _ hq x rfl;simp only[go_sem,zE,zX3,Option.getD_some,Option.isSome_some];exact yQ0 ⟨⟨t,ys,rfl,ht,hys⟩,es,hes,(yX7 hm).symm⟩
 | none =>
  have hLr:=yGl (ca:=ca) (hS.pf hfW) r;have hLl:(yJx (calJ ca) f.op r).length=(addF (calJ ca) f r).length:=by rw[<- hLr,List.length_map]
  have hL2:(addF (calJ ca) f r).length<=1000:=by
   rw[<- hLl];unfold yJx
   repeat' split
   all_goals simp
  have hrules:=λst=>wV0 gl ca m tw xw f.op r st;have hadd:=λrule st=>vZm gl G T ca rule f y hy (by have:=hS.size hfW;omega) tmZ (.agg [.raw (.bool false),.raw (.string noN),.sl ⟨true,.nil,0⟩ []]) (by simp only[IsTm];exact⟨_,_,rfl,.inl rfl,by simp only[IsTms]⟩) (by decide) noN st;obtain⟨y1,y2,y3,y4,y5,y6,rfl⟩:=hy.agg;obtain rfl:y1=f.op:=vV3 hy;simp only[go_sem,zE,zB,zA,zL,reduceCtorEq,zX3,Option.getD_none,Option.isSome_none,fits,hky,yQ4 htw,iNn];refine (hrules _).mono ?_;rintro _ st ⟨⟨tL,rfl,htL⟩,rfl⟩;simp only[go_sem,u8I,List.length_map,hLl];intro _;refine LoopC.ctr (addF (calJ ca) f r).length (λk fr st' ds=>(∃t ys,fr 5=.iv (.sl t ys)/\AllR IsTn ((yZr W (calJ ca) f r).take k) ys/\own st' t k 2 st/\subSt st st')/\fr 0=.iv (spI ca tw xw m)/\fr 3=.box [.raw (.int .i64 (i:Int)),.raw (.bool r)] /\
   fr 7=.box [.raw (.int .u8 (f.op:Int)),.raw (.string y2),.sl y3 y4,.sl y5 y6]/\fr 39=.iv (.sl tL (u8I (yJx (calJ ca) f.op r)))/\fr 40=.iv (.raw (.int .i64 (addF (calJ ca) f r).length))/\fr 41=.iv (.raw (.int .i64 (k:Int)))/\ds=[]) ?_ ?_ ?_
  ·simp only[go_sem,zE,reduceCtorEq,u8I];exact⟨⟨_,_,rfl,AllR.nil,own.nil _ _ _ _ _,subSt.refl _⟩,rfl⟩
  ·rintro k fr st1 _ hlt ⟨⟨t,ys,f5,hys,hown,hsub⟩,f0,f3,f7,f39,f40,f41,rfl⟩;obtain⟨tt,htt⟩:=yQ1 hlt;have htm:=lMg htt;have hrk:(yJx (calJ ca) f.op r)[k]?=some tt.1:=by rw[<- hLr,List.getElem?_map,htt];rfl
   have hu:(u8I (yJx (calJ ca) f.op r))[k]?=some (.raw (.int .u8 (tt.1:Int))):=by rw[u8I,List.getElem?_map,hrk];rfl
   have hai:=xZh hS.cal hfB htm;have hsubs:=λp hp=>hS.sub hfW htm (p:=p) hp;simp only[go_sem,zE,zA,zL,reduceCtorEq,f0,f7,f39,f40,f41,lt_i hlt,yQ4 htL,iNn,hu,fits];refine (hadd tt.1 _).mono ?_;rintro _ st1 ⟨ta,xa,rfl,hta,hxa,rfl⟩;rw[hai] at hxa ⊢;simp only[go_sem,zE,zA,zL,show decide (((0:Nat):Int)=0)=true from rfl,fits];have hxl:xa.length=tt.2.length:=by rw[hxa.len,List.length_map]
   have hpl:=xYh htm;have hp2:=zU1 htm;intro _;rw[hxl];refine LoopC.ctr tt.2.length (λq fr st' ds=>(∃t2 zs,fr 12=.box [.raw (.int .u8 (tt.1:Int)),.sl t2 zs]/\AllR IsEx ((tt.2.map (exW W)).take q) zs/\own st' t2 q 4 st/\own st' t k 2 st/\subSt st st')/\fr 0=.iv (spI ca tw xw m)/\fr 3=.box [.raw (.int .i64 (i:Int)),.raw (.bool r)]/\fr 5=.iv (.sl t ys) /\
    fr 7=.box [.raw (.int .u8 (f.op:Int)),.raw (.string y2),.sl y3 y4,.sl y5 y6]/\fr 39=.iv (.sl tL (u8I (yJx (calJ ca) f.op r)))/\fr 40=.iv (.raw (.int .i64 (addF (calJ ca) f r).length))/\fr 41=.iv (.raw (.int .i64 (k:Int))) /\
    fr 60=.iv (.sl ta xa)/\fr 61=.iv (.raw (.int .i64 tt.2.length))/\fr 62=.iv (.raw (.int .i64 (q:Int)))/\ds=[]) ?_ ?_ ?_
   ·simp only[go_sem,zE,reduceCtorEq];refine⟨⟨_,_,rfl,AllR.nil,own.nil _ _ _ _ _,hown,hsub⟩,f0,f3,f5,f7,f39,f40,f41,rfl⟩
   ·rintro q fr st2 _ hq ⟨⟨t2,zs,f12,hzs,hown2,hown,hsub⟩,f0,f3,f5,f7,f39,f40,f41,f60,f61,f62,rfl⟩;obtain⟨p,hp⟩:=yQ1 hq;have hps:(tt.2.map sqOf)[q]?=some (sqOf p):=by rw[List.getElem?_map,hp];rfl
    obtain⟨z,hzk,hz⟩:=hxa.get hps;have hpl2:=hpl p (lMg hp);have hlc:=λst=>xVw gl T ca m W tw xw htw hxw hS.srt hWl (sqOf p) z hz ⟨by show p.1.length<=_;omega,by show p.2.length<=_;omega⟩ (hsubs p (lMg hp)) st;obtain⟨t3,x3,t4,x4,rfl,e3,i3,e4,i4⟩:=hz;simp only[go_sem,zE,zB,zA,zL,reduceCtorEq,f0,f12,f60,f61,f62,lt_i hq,yQ4 hta,iNn,hzk,fits];refine (hlc _).mono ?_;rintro _ st2 ⟨⟨t5,t6,rfl,e5,e6⟩,rfl⟩;simp only[go_sem,zE,zA,zM,zL,fits,i3.len,i4.len,yQ3];have hzl:zs.length=q:=by rw[hzs.1,List.length_take,List.length_map];omega
    refine yZf hown2 hzl hsub rfl (by simp[fits,IV.one]) (by simp only;omega) (by omega) λt2' st3 hown3 hsub3 hkeep=>?_;have hown':own st3 t k 2 st:=hown.mono λg hg _=>hkeep g _ hg λn hn=>by cases hn
    simp only[go_sem,zE,zA,zL,reduceCtorEq,f0,f3,f5,f7,f12,f39,f40,f41,f60,f61,f62,yQd hq (show tt.2.length<=281474976710656 by omega)];refine⟨t2',_,rfl,?_,hown3,hown',hsub3⟩;rw[yQ8 (show (tt.2.map (exW W))[q]?=some (exW W p) by rw[List.getElem?_map,hp];rfl)];exact hzs.snoc ⟨t5,t6,rfl,e5,e6⟩
   ·rintro fr st2 _ ⟨⟨t2,zs,f12,hzs,hown2,hown,hsub⟩,f0,f3,f5,f7,f39,f40,f41,f60,f61,f62,rfl⟩;have hyl:ys.length=k:=by
     rw[hys.1,List.length_take];unfold yZr;rw[List.length_map];omega
    simp only[go_sem,zE,zA,zM,zL,f5,f12,f61,f62,yQl (nLi _),fits,yQ3];refine yZf hown hyl hsub rfl (by simp[fits,IV.one]) (by simp only;omega) (by omega) λt' st3 hown3 hsub3 hkeep=>?_;simp only[go_sem,zE,reduceCtorEq,f0,f3,f7,f39,f40,f41,yQd hlt (show (addF (calJ ca) f r).length<=281474976710656 by omega)];refine⟨t',_,rfl,?_,hown3,hsub3⟩;unfold yZr;rw[yQ8 (show ((addF (calJ ca) f r).map λt=>(t.1,t.2.map (exW W)))[k]?=some (tt.1,tt.2.map (exW W)) by rw[List.getElem?_map,htt];rfl)];refine hys.snoc ⟨t2,zs,rfl,hown2.es,?_⟩;rw[show tt.2.length=(tt.2.map (exW W)).length from (List.length_map ..).symm,lTl] at hzs;exact hzs
  ·rintro fr st1 _ ⟨⟨t,ys,f5,hys,hown,hsub⟩,f0,f3,f7,f39,f40,f41,rfl⟩;have hm1:=hsub m _ hm;rw[show (addF (calJ ca) f r).length=(yZr W (calJ ca) f r).length from (List.length_map ..).symm,lTl] at hys;simp only[go_sem,zE,zA,zL,reduceCtorEq,f0,f3,f5,f40,f41,yQl (nLi _),hm1,show yQy .pl (.agg #[.int .i64 (i:Int),.bool r])=true from hki,fits];exact yQg (xYn hsub) ⟨⟨t,ys,rfl,hown.es,hys⟩,_,hes.upd hf ⟨t,ys,rfl,hown.es,hys⟩,rfl⟩
end Go.Proofs.Tryz
namespace Go.Iv
open Go
theorem wW2 {st:ISt}{b:Nat}{cs:List IV}(h:st b=some (.box cs)):LendOk st (ISt.put (λ_=>none) b (some (.box cs))) (st.put b none):=by
 refine⟨λc o hc=>?_,λc o hc=>?_,λc cs' hc=>?_⟩
 ·rw[ISt.put_apply] at hc;split at hc
  ·rename_i hb;rw[hb,h];exact hc
  ·cases hc
 ·rw[ISt.put_apply] at hc;split at hc
  ·cases hc
  ·exact hc
 ·rw[ISt.put_apply] at hc ⊢;split at hc
  ·rename_i hb;rw[if_pos hb]
  ·cases hc
def vcF (c:Cf)(t:Nat):Nat->Code->Kc->Fr->ISt->List Dfd->Prop
 | 0,code,Q,fr,st,ds=>∃b y,fr t=.iv (.raw (.pointer (some ⟨b,0,none⟩)))/\st b=some (.box y.cells)/\vcC c code Q (fr.put t (.iv (.cptr (age y)))) (st.put b none) ds
 | n+1,.seq a b,Q,fr,st,ds=>vcC c a (seqK (vcF c t n b Q) Q) fr st ds
 | _,_,_,_,_,_=>False
@[go_sem ↓] theorem uZu {c:Cf}{t n:Nat}{a b:Code}{Q:Kc}{fr:Fr}{st:ISt}{ds:List Dfd}:vcF c t (n+1) (.seq a b) Q fr st ds=vcC c a (seqK (vcF c t n b Q) Q) fr st ds:=(rfl)
theorem Inv.frzAt {C:Cx}{X0 X:WS}{N:Nat}{fr:Fr}{ds:List Dfd}{a:Act}(h:Inv C X0 N X fr ds a){t b:Nat}{y:IV}(ht:t<N)(hf:fr t=.iv (.raw (.pointer (some ⟨b,0,none⟩))))(hb:X.st b=some (.box y.cells)) :
  ∃X',X'.w=X.w/\X'.st=X.st.put b none/\Inv C X0 N X' (fr.put t (.iv (.cptr (age y)))) ds a:=by
 have k:=wW2 hb;refine⟨X.lendS (ISt.put (λ_=>none) b (some (.box y.cells))) (X.st.put b none),rfl,rfl,?_⟩;have h1:=h.ext' (h.good.lendS_ext k) (h.good.lendS k);have hv:=h.fr.slot t;rw[hf] at hv;have ho:OI (ISt.put (λ_=>none) b (some (.box y.cells))) (.raw (.pointer (some ⟨b,0,none⟩))) (.cptr y):=.ptr b y y.cells (ISt.put_same ..) rfl λi r c hr hc=>by
  rw[hr] at hc;cases hc;exact .refl _
 have h2:=h1.put ht (ho.v h.good k hv);have hset:a.tmps.setIfInBounds t (tm a.tmps t)=a.tmps:=by
  refine Array.ext (by simp) λi h1 h2=>?_;rw[Array.getElem_setIfInBounds];split
  ·rename_i he;subst he;unfold tm;rw[Array.getD_eq_getD_getElem?,Array.getElem?_eq_getElem h2];rfl
  ·rfl
 rw[hset] at h2;simpa only[age] using h2
theorem zUj {N:Nat}{c:Cf}{t:Nat}(ht:t<N){B:Nat}{X0:WS}{ro:Option Nat}{m:Nat}(hro:c.rd=false->ro=none){Q:Kc}:∀(n:Nat) (code:Code) (X:WS) (fr:Fr) (ds:List Dfd) (a:Act),codeOk c N code=true →
  Inv (c.cx B) X0 N X fr ds a->vcF c t n code Q fr X.st ds->code.wpIn (yZb ro) m c.P (PQ (c.cx B) X0 N Q) a X.w
 | 0,code,X,fr,ds,a,hd,hI,h=>by
  obtain⟨b,y,h1,h2,h3⟩:=h;obtain⟨X',e1,e2,hI'⟩:=hI.frzAt ht h1 h2;rw[<- e2] at h3;have:=yUs code c B X0 ro m hro Q X' _ ds a hd hI' h3;rw[e1] at this;exact this
 | n+1,.seq x y,X,fr,ds,a,hd,hI,h=>by
  simp only[codeOk,bAt] at hd;refine wpIn_seq (wpIn_mono (yUs x c B X0 ro m hro _ X fr ds a hd.1 hI h) ?_);rintro e a' w' ⟨X',fr',ds',rfl,hI',hq⟩;cases e with
  | normal=>exact zUj ht hro n y X' fr' ds' a' hd.2 hI' hq
  | _=>exact⟨X',fr',ds',rfl,hI',hq⟩
 | n+1,.skip,_,_,_,_,_,_,h=>h.elim
 | n+1,.region ..,_,_,_,_,_,_,h=>h.elim
 | n+1,.cond ..,_,_,_,_,_,_,h=>h.elim
 | n+1,.block ..,_,_,_,_,_,_,h=>h.elim
 | n+1,.loop ..,_,_,_,_,_,_,h=>h.elim
 | n+1,.exit ..,_,_,_,_,_,_,h=>h.elim
 | n+1,.label ..,_,_,_,_,_,_,h=>h.elim
 | n+1,.goto ..,_,_,_,_,_,_,h=>h.elim
 | n+1,.ret,_,_,_,_,_,_,h=>h.elim
 | n+1,.scope ..,_,_,_,_,_,_,h=>h.elim
 | n+1,.rangeFunc ..,_,_,_,_,_,_,h=>h.elim
 | n+1,.refuse ..,_,_,_,_,_,_,h=>h.elim
theorem ICall.introF {c:Cf}{t n:Nat}{f:FuncId}{fn:Func}{code:Code}{args:List IV}{st:ISt}{K:IV->ISt->Prop}(hf:c.P.funcs[f]?=some fn)(hb:fn.body=some code)
  (hN:args.length<=fn.ntmps) (ht:t<fn.ntmps) (hd:codeOk c fn.ntmps code=true) (h:vcF c t n code (bodyK c.P c.gl fn.results.toList K) (frOf args) st []):ICall c.P c.gl f args st K:=by
 intro B X rs hg hst hv;subst hst;refine (callsIn_wide (n:=0)).1 (callsIn_of_wp_marks hf hb trivial ?_);have hs:=zUj (N:=fn.ntmps) ht (c:=c) (B:=B) (X0:=X) (ro:=none) (m:=0) (λ_=>rfl) n code X (frOf args) [] _ hd (Inv.start hg hv hN) h;refine wpIn_mono hs ?_;rintro e a' w' ⟨X',fr',ds',rfl,hI,hq⟩;cases e with
 | normal=>exact zWi ds' X' a' hI hq
 | ret=>exact zWi ds' X' a' hI hq
 | _=>exact hq.elim
end Go.Iv
namespace Go.Proofs.Tryz
open Go Go.Iv
set_option maxRecDepth 4000
variable (gl:Nat->Option IV)
theorem wJu {c:Cf}{ops:Array Oper}{Q:Fr->ISt->List Dfd->Prop}{listed:Array Bool}{ad:Ad}{fr:Fr}{st:ISt}{ds:List Dfd}(h:Q fr st ds):anyV c ops Q 0 listed ad fr st ds:=λ_=>h
theorem zV0 {c:Cf}{ops:Array Oper}{Q:Fr->ISt->List Dfd->Prop}{n:Nat}{listed:Array Bool}{ad:Ad}{fr:Fr}{st:ISt}{ds:List Dfd}(i:Nat)(h:Region.ready .any ops listed=[i])
  (hs:yWz c ops.toList (opAt ops i) (anyV c ops Q n (listed.setIfInBounds i true)) ad fr st ds):anyV c ops Q (n+1) listed ad fr st ds:=by
 refine⟨λh0=>(by rw[h] at h0;cases h0),λj hj=>?_⟩;rw[h,List.mem_singleton] at hj;subst hj;exact hs
theorem vZb {c:Cf}{ops:Array Oper}{Q:Fr->ISt->List Dfd->Prop}{n:Nat}{listed:Array Bool}{ad:Ad}{fr:Fr}{st:ISt}{ds:List Dfd}(i k:Nat)(h:Region.ready .any ops listed=[i,k])
  (hs:yWz c ops.toList (opAt ops i) (anyV c ops Q n (listed.setIfInBounds i true)) ad fr st ds) (hs':yWz c ops.toList (opAt ops k) (anyV c ops Q n (listed.setIfInBounds k true)) ad fr st ds):anyV c ops Q (n+1) listed ad fr st ds:=by
 refine⟨λh0=>(by rw[h] at h0;cases h0),λj hj=>?_⟩;rw[h,List.mem_cons,List.mem_singleton] at hj;rcases hj with rfl|rfl
 ·exact hs
 ·exact hs'
theorem yJo (c:Cf)(ops:List Oper)(dst:Option Nat)(op:Op)(ty:TypeId)(pos:String)(aft:Array Edge)(K:Kt)(ad:Ad)(fr:Fr)(st:ISt)(ds:List Dfd):yWz c ops ⟨dst,op,ty,pos,aft,none⟩ K ad fr st ds=vcOp c dst op K ad fr st ds:=rfl
theorem zGm (fr:Fr)(d:Nat)(x y:SV):(fr.put d x).put d y=fr.put d y:=by
 funext s;simp only[Fr.put_apply];split<;>rfl
theorem wJk {esc:List Nat}{ord:List (Nat×List Nat)}{frz:List Nat}{d d':Nat}{p:String}{Q:Fr->ISt->List Dfd->Prop}{fr:Fr}{st:ISt}(hd:d ∉ esc)(hne:d≠d')(hd':d' ∉ esc)
  (h:∀b:Bool,Q ((fr.put d (.box [.raw (.bool b)])).put d' (.iv (.raw (.bool b)))) st []) :
  zKj (cf prog gl esc ord frz) #[⟨some d,.alloc 4,0,p,#[],none⟩,⟨none,.store 4 (.tmp d) (.const (.bool true)),0,p,#[⟨0,.data⟩,⟨2,.gcOnly .appendInPlace⟩],none⟩,
   ⟨none,.store 4 (.tmp d) (.const (.bool false)),0,p,#[⟨0,.data⟩,⟨1,.textOnly .appendInPlace⟩],none⟩,⟨some d',.load 4 (.tmp d),4,p,#[⟨0,.data⟩,⟨0,.phase⟩,⟨1,.phase⟩,⟨2,.phase⟩],none⟩] (some []) Q fr st []:=by
 rw[xZ1];refine zV0 0 (by kernel_rfl) ?_;simp only[go_sem,zA,hd,yJo];refine vZb 1 2 (by kernel_rfl) ?_ ?_
 ·simp only[go_sem,zL,yJo];refine zV0 2 (by kernel_rfl) ?_;simp only[go_sem,zL,yJo];refine zV0 3 (by kernel_rfl) ?_;simp only[go_sem,yJo];refine wJu ?_;rw[zGm,zGm];exact h false
 ·simp only[go_sem,zL,yJo];refine zV0 1 (by kernel_rfl) ?_;simp only[go_sem,zL,yJo];refine zV0 3 (by kernel_rfl) ?_;simp only[go_sem,yJo];refine wJu ?_;rw[zGm,zGm];exact h true
def yKa:Fm->List Fm
 | .mk 7 n us [a,b]=>[.mk 7 n us [a,b],imF a b,imF b a]
 | f=>[f]
mutual
def cloF:Fm->List Fm
 | .mk o n us sub=>yKa (.mk o n us sub)++yZq sub
def yZq:List Fm->List Fm
 | []=>[]
 | a::l=>cloF a++yZq l
end
def yUr (ca m:Nat)(x:IV):IObj:=.box [.raw (.int .u8 (ca:Int)),x,.raw (.map (some m))]
def Fo (ca m b12:Nat)(B0:ISt)(l:List Fm)(st:ISt):Prop:=(l=[]/\st=B0.put b12 (some (yUr ca m (.sl ⟨true,.nil,0⟩ [])))) \/
 ∃g cap cs zs,l≠[]/\B0 g=none/\g≠b12/\l.length<=cap/\cap*4<=cs.length/\cs.take (l.length*4)=zs.flatMap IV.cells/\IsFms l zs/\st=(B0.put b12 (some (yUr ca m (.raw (.slice (some ⟨g,0,none⟩) l.length cap))))).put g (some (.box cs))
abbrev ptr (b:Nat):IV:=.raw (.pointer (some ⟨b,0,none⟩))
abbrev colFn (b12 b6:Nat):IV:=.fn (.func 126) [] [.cptr (ptr b12),ptr b6]
def ColC (f:Fm):Prop:=∀(ca m b6 b12:Nat) (x:IV) (_:IsFm f x) (B0 st:ISt) (l:List Fm),B0 b6=some (.box [colFn b12 b6])->b6≠b12->(l++cloF f).length<=1000000->Fo ca m b12 B0 l st →
 ICall prog gl 126 [x,.cptr (ptr b12),ptr b6] st (λ_ st'=>Fo ca m b12 B0 (l++cloF f) st')
theorem wKm:allI zKn [Value.int IntKind.u8 0,Value.string noN,Value.slice none 0 0,Value.slice none 0 0]=some [.raw (.int .u8 0),.raw (.string noN),.sl ⟨true,.nil,0⟩ [],.sl ⟨true,.nil,0⟩ []]:=rfl
theorem xV2 (f:Fm):1<=(yKa f).length:=by
 unfold yKa;split<;>simp
theorem xV1 {o:Nat}{n:ByteArray}{us:List Tm}{sub:List Fm}(h:¬ (o=7/\sub.length=2)):yKa (.mk o n us sub)=[.mk o n us sub]:=by
 unfold yKa;split
 ·rename_i he;cases he;exact absurd ⟨rfl,rfl⟩ h
 ·rfl
theorem zYc {B0:ISt}{b g:Nat}{a z c:Option IObj}(h:g≠b):((B0.put b a).put g c).put b z=(B0.put b z).put g c:=by
 funext d;simp only[ISt.put_apply];by_cases h1:d=b
 ·subst h1;rw[if_pos rfl,if_neg λe=>h e.symm,if_pos rfl]
 ·rw[if_neg h1,if_neg h1,if_neg h1]
theorem zQq {B0:ISt}{b g g':Nat}{a z c c':Option IObj}(hg:B0 g=none)(h1:g≠b)(h2:g'≠b):((((B0.put b a).put g c).put g none).put g' c').put b z=(B0.put b z).put g' c':=by
 funext d;simp only[ISt.put_apply];by_cases e1:d=b
 ·subst e1;rw[if_pos rfl,if_neg λe=>h2 e.symm,if_pos rfl]
 ·rw[if_neg e1,if_neg e1,if_neg e1];by_cases e2:d=g
  ·rw[if_pos e2,e2,hg]
  ·rw[if_neg e2,if_neg e2]
theorem zXp {l:List Fm}{zs:List IV}(h:IsFms l zs):(zs.flatMap IV.cells).length=l.length*4:=by
 rw[<- h.len];refine yQs zs λz hz=>?_;obtain⟨a,ha,_⟩:=zZa h z hz;cases a;obtain⟨_,_,_,_,rfl,_⟩:=ha.mk;rfl
theorem zKv {cs' Z z new:List IV}{n:Nat}(hZ:Z.length=n*4)(hn:new.length=4)(hl:(n+1)*4<=cs'.length)(h:cs'.take ((n+1)*4)=Z++z):(cs'.take (n*4)++new++cs'.drop (n*4+4)).take ((n+1)*4)=Z++new:=by
 have h1:cs'.take (n*4)=Z:=by
  have:=congrArg (List.take (n*4)) h;rw[List.take_take,Nat.min_eq_left (by omega),List.take_left' hZ] at this;exact this
 rw[h1,List.take_left'];rw[lLa,hZ,hn];omega
theorem zQx {B0:ISt}{b g g':Nat}{a':IObj}{c:Option IObj}(hg:B0 g=none)(hn:g≠b)(hg':g'=g\/((B0.put b (some a')).put g c) g'=none):g'≠b/\B0 g'=none:=by
 rcases hg' with rfl|h
 ·exact⟨hn,hg⟩
 ·by_cases h1:g'=g
  ·subst h1;exact⟨hn,hg⟩
  ·rw[yQ7 h1] at h;by_cases h2:g'=b
   ·subst h2;rw[ISt.put_same] at h;cases h
   ·exact⟨h2,by rwa [yQ7 h2] at h⟩
theorem Fo.first {ca m b12 g cap:Nat}{B0:ISt}{cs:List IV}{f:Fm}{x:IV}(hx:IsFm f x)(hg:B0 g=none)(hn:g≠b12)(hc:1<=cap)(hr:cap*4<=cs.length)(ht:cs.take 4=x.cells) :
  Fo ca m b12 B0 [f] ((B0.put b12 (some (yUr ca m (.raw (.slice (some ⟨g,0,none⟩) 1 cap))))).put g (some (.box cs))) :=
 .inr ⟨g,cap,cs,[x],by simp,hg,hn,hc,hr,by simpa using ht,.one hx,rfl⟩
theorem Fo.snoc {ca m b12 g cap:Nat}{B0:ISt}{cs:List IV}{l:List Fm}{zs:List IV}(hz:IsFms l zs){f:Fm}{x:IV}(hx:IsFm f x)(hg:B0 g=none)(hn:g≠b12)(hc:l.length+1<=cap)(hr:cap*4<=cs.length)
  (ht:cs.take ((l.length+1)*4)=zs.flatMap IV.cells++x.cells) :
  Fo ca m b12 B0 (l++[f]) ((B0.put b12 (some (yUr ca m (.raw (.slice (some ⟨g,0,none⟩) (l.length+1) cap))))).put g (some (.box cs))) :=
 .inr ⟨g,cap,cs,zs++[x],by simp,hg,hn,by simpa using hc,hr,by simpa using ht,hz.append (.one hx),by simp⟩
theorem wGw {c:Cf}{A:Code}{K:Fr->ISt->List Dfd->Prop}{Q:Kc}{fr:Fr}{st:ISt}{ds:List Dfd}(J:Fr->ISt->List Dfd->Prop)(h:vcC c A (seqK J Q) fr st ds)(hJ:∀fr st ds,J fr st ds->K fr st ds):vcC c A (seqK K Q) fr st ds :=
 yUl A (λe fr st ds=>by cases e<;>first|exact hJ _ _ _|exact id) h
theorem zGy {b:Bool}{c:Cf}{A B:Code}{K:Fr->ISt->List Dfd->Prop}{Q:Kc}{fr:Fr}{st:ISt}{ds:List Dfd}(J:Fr->ISt->List Dfd->Prop)(hJ:∀fr st ds,J fr st ds->K fr st ds)
  (h1:b=true->vcC c A (seqK J Q) fr st ds) (h2:b=false->vcC c B (seqK J Q) fr st ds):yYv b (vcC c A (seqK K Q) fr st ds) (vcC c B (seqK K Q) fr st ds) .mk .mk:=by
 have hm:∀e fr st ds,seqK J Q e fr st ds->seqK K Q e fr st ds:=λe fr st ds=>by
  cases e<;>first|exact hJ _ _ _|exact id
 exact yZo (λh=>yUl A hm (h1 h)) (λh=>yUl B hm (h2 h))
theorem yGi {sub:List Fm}{k:Nat}{g:Fm}(h:sub[k]?=some g):yZq (sub.take (k+1))=yZq (sub.take k)++cloF g:=by
 have app:∀a b:List Fm,yZq (a++b)=yZq a++yZq b:=λa b=>by
  induction a with
  | nil=>rfl
  | cons c a ih=>simp only[List.cons_append,yZq,ih,List.append_assoc]
 rw[yQ8 h,app];simp[yZq]
theorem vQw {l:List Fm}{o:Nat}{n:ByteArray}{us:List Tm}{sub:List Fm}{k:Nat}{g:Fm}(h:(l++cloF (.mk o n us sub)).length<=1000000)(hg:sub[k]?=some g):(l++yKa (.mk o n us sub)++yZq (sub.take k)++cloF g).length<=1000000:=by
 have mono:∀(a:List Fm) (k:Nat),(yZq (a.take k)).length<=(yZq a).length:=λa=>by
  induction a with
  | nil=>intro k;simp
  | cons c a ih =>
   intro k;cases k with
   | zero=>simp[yZq]
   | succ k=>simp only[List.take_succ_cons,yZq,lLa];have:=ih k;omega
 have h1:=mono sub (k+1);rw[yGi hg] at h1;simp only[cloF,lLa] at h h1 ⊢;omega
theorem Fo.self {ca m b12 b6:Nat}{B0 st:ISt}{l:List Fm}{o:IObj}(h:Fo ca m b12 B0 l st)(h6:B0 b6=some o)(hn:b6≠b12):st b6=some o:=by
 rcases h with⟨_,rfl⟩|⟨g,cap,cs,zs,_,hg,_,_,_,_,_,rfl⟩
 ·rw[yQ7 hn,h6]
 ·rw[yQ7 (by rintro rfl;rw[hg] at h6;cases h6),yQ7 hn,h6]
theorem wW9 {a b:Fm}{x y:IV}(ha:IsFm a x)(hb:IsFm b y):IsFm (imF a b) (.agg [.raw (.int .u8 6),.raw (.string noN),.sl ⟨true,.nil,0⟩ [],.sl ⟨true,.full,4⟩ [x,y]]) :=
 ⟨_,_,_,_,rfl,by decide,.inl rfl,rfl,.inr rfl,⟨x,_,rfl,ha,y,_,rfl,hb,rfl⟩⟩
theorem wWr (o:Nat)(n:ByteArray)(us:List Tm)(sub:List Fm)(IH:∀a∈sub,ColC gl a):ColC gl (.mk o n us sub):=by
 intro ca m b6 b12 x hx B0 st l h6 n6 hlen hF;obtain⟨t1,x1,t2,x2,rfl,ho,e1,i1,e2,i2⟩:=hx.mk;have hlen1:l.length+(yKa (.mk o n us sub)).length<=1000000:=by rw[lLa] at hlen;simp only[cloF,lLa] at hlen;omega
 have hsl:=xV2 (.mk o n us sub);refine ICall.intro (c:=cf prog gl [13,17,25,28,53,60,68,74,82,89,97,103] [(1,[]),(7,[]),(11,[])]) func126 rfl (by show _<=117;simp) (by kernel_rfl) ?_;simp only[go_sem,zE];refine wJk gl (by decide) (by decide) (by decide) λc1=>?_;simp only[go_sem];refine zGy (λfr st ds=>Fo ca m b12 B0 (l++[.mk o n us sub]) st/\ds=[]/\fr 1=.iv (.cptr (ptr b12))/\fr 2=.iv (ptr b6)/\fr 3=.box [.raw (.int .u8 (o:Int)),.raw (.string n),.sl t1 x1,.sl t2 x2]) ?_ (λh=>?_) (λh=>?_)
 ·rintro fr s1 _ ⟨hF1,rfl,f1,f2,f3⟩;rw[wGv];refine wGw (λfr st ds=>Fo ca m b12 B0 (l++yKa (.mk o n us sub)) st/\ds=[]/\fr 1=.iv (.cptr (ptr b12))/\fr 2=.iv (ptr b6)/\fr 3=.box [.raw (.int .u8 (o:Int)),.raw (.string n),.sl t1 x1,.sl t2 x2]) ?_ ?_
  ·by_cases h7:o=7
   ·subst h7;by_cases h2:x2.length=2
    ·rw[i2.len] at h2;obtain⟨a,b,rfl⟩:∃a b,sub=[a,b]:=by
      match sub,h2 with
      | [a,b],_=>exact⟨a,b,rfl⟩
     obtain⟨xa,_,rfl,ia,xb,_,rfl,ib,rfl⟩:=i2;cases a with
     | mk oa na ua sa =>
     cases b with
     | mk ob nb ub sb =>
     obtain⟨ta1,xa1,ta2,xa2,rfl,ha⟩:=ia.mk;obtain⟨tb1,xb1,tb2,xb2,rfl,hb⟩:=ib.mk;simp only[go_sem,zE,zA,zL,f3,show decide (((7:Nat):Int)=7)=true from rfl];refine yZo (λ_=>?_) λh=>absurd h (by decide);simp only[go_sem,zE,zB,zA,zL,f3,fits,yQ4 e2,show ((0:Int)<=0)=True from eq_true (by decide),show ((0:Int)<=1)=True from eq_true (by decide),show Int.toNat 0=0 from rfl,show Int.toNat 1=1 from rfl,IV.one];rw[show l++yKa (.mk 7 n us [.mk oa na ua sa,.mk ob nb ub sb])=l++[.mk 7 n us [.mk oa na ua sa,.mk ob nb ub sb]]++[imF (.mk oa na ua sa) (.mk ob nb ub sb)]++[imF (.mk ob nb ub sb) (.mk oa na ua sa)] by simp[yKa]];have hL:(l++[Fm.mk 7 n us [.mk oa na ua sa,.mk ob nb ub sb]]).length+2<=1000000:=by simp[yKa] at hlen1 ⊢;omega
     have hne:l++[Fm.mk 7 n us [.mk oa na ua sa,.mk ob nb ub sb]]≠[]:=by simp
     generalize l++[Fm.mk 7 n us [.mk oa na ua sa,.mk ob nb ub sb]]=L at hF1 hL hne ⊢;refine wJk gl (by decide) (by decide) (by decide) λc2=>?_;simp only[go_sem];refine zGy (λfr st ds=>Fo ca m b12 B0 (L++[imF (.mk oa na ua sa) (.mk ob nb ub sb)]) st/\ds=[]/\fr 1=.iv (.cptr (ptr b12))/\fr 2=.iv (ptr b6) /\
      fr 3=.box [.raw (.int .u8 ((7:Nat):Int)),.raw (.string n),.sl t1 x1,.sl t2 [.agg [.raw (.int .u8 (oa:Int)),.raw (.string na),.sl ta1 xa1,.sl ta2 xa2],.agg [.raw (.int .u8 (ob:Int)),.raw (.string nb),.sl tb1 xb1,.sl tb2 xb2]]] /\
      fr 4=.box [.raw (.int .u8 (oa:Int)),.raw (.string na),.sl ta1 xa1,.sl ta2 xa2]/\fr 5=.box [.raw (.int .u8 (ob:Int)),.raw (.string nb),.sl tb1 xb1,.sl tb2 xb2]) ?_ (λh=>?_) (λh=>?_)
     ·rintro fr s2 _ ⟨hF2,rfl,f1,f2,f3,f4,f5⟩;have hL2:(L++[imF (.mk oa na ua sa) (.mk ob nb ub sb)]).length+1<=1000000:=by rw[lLa];exact hL
      have hne2:L++[imF (.mk oa na ua sa) (.mk ob nb ub sb)]≠[]:=by simp
      generalize L++[imF (.mk oa na ua sa) (.mk ob nb ub sb)]=L2 at hF2 hL2 hne2 ⊢;simp only[go_sem,zE];refine wJk gl (by decide) (by decide) (by decide) λc3=>?_;obtain⟨g,cap,cs,zs,hl0,hg,hgb,hcap,hroom,hcs,hzs,rfl⟩:=hF2.resolve_left λh=>hne2 h.1;cases c3
      ·simp only[go_sem,zE,zA,zM,zL,f1,f4,f5,fits,yUr,yQ7 hgb.symm,yQ3,yJs];refine yZv _ _ _ (ISt.put_same ..) rfl ⟨by show (L2.length+1)*72<=_;omega,by show L2.length+1<=_;omega⟩ ⟨hcap,hroom⟩ rfl ?_;intro g' cap' cs' hg' k1 k2 k3;obtain⟨gb',hgn⟩:=zQx hg hgb hg';simp only[go_sem,zE,zA,zL,f1,f2,f3,yQ7 gb'.symm,yQ7 hgb.symm,IV.one];rw[zQq hg hgb gb'];exact .snoc hzs (wW9 ib ia) hgn gb' k1 k2 (k3.trans (congrArg (·++_) hcs))
      ·simp only[go_sem,zE,zA,zM,zL,f1,f4,f5,fits,yUr,yQ7 hgb.symm,yQ3,yJs,wKm];refine yZv _ _ _ (ISt.put_same ..) rfl ⟨by show (L2.length+1)*72<=_;omega,by show L2.length+1<=_;omega⟩ ⟨hcap,hroom⟩ rfl ?_;intro g' cap' cs' hg' k1 k2 k3;obtain⟨gb',hgn⟩:=zQx hg hgb hg';simp only[go_sem,zE,zA,zL,f1,f2,f3,yQ7 gb'.symm,yQ7 gb',yQ7 hgb.symm,IV.one];have k2':cap'*4<=cs'.length:=k2;have k1':L2.length+1<=cap':=k1;rw[if_pos ⟨iNn _,Nat.lt_succ_self _⟩,if_pos (by omega),zQq hg hgb gb',yQ6];exact .snoc hzs (wW9 ib ia) hgn gb' k1 (by simp only[lLa,List.length_take,List.length_drop,List.length_cons,List.length_nil];omega) (zKv (by rw[zXp hzs]) rfl (by omega) (k3.trans (congrArg (·++_) hcs)))
     ·obtain⟨g,cap,cs,zs,hl0,hg,hgb,hcap,hroom,hcs,hzs,rfl⟩:=hF1.resolve_left λh=>hne h.1;simp only[go_sem,zE,zA,zM,zL,f1,fits,yUr,yQ7 hgb.symm,yQ3,yJs,wKm];refine yZv _ _ _ (ISt.put_same ..) rfl ⟨by show (L.length+1)*72<=_;omega,by show L.length+1<=_;omega⟩ ⟨hcap,hroom⟩ rfl ?_;intro g' cap' cs' hg' k1 k2 k3;obtain⟨gb',hgn⟩:=zQx hg hgb hg';simp only[go_sem,zE,zA,zL,f1,f2,f3,yQ7 gb'.symm,yQ7 gb',yQ7 hgb.symm,IV.one];have k2':cap'*4<=cs'.length:=k2;have k1':L.length+1<=cap':=k1;rw[if_pos ⟨iNn _,Nat.lt_succ_self _⟩,if_pos (by omega),zQq hg hgb gb',yQ6];exact .snoc hzs (wW9 ia ib) hgn gb' k1 (by simp only[lLa,List.length_take,List.length_drop,List.length_cons,List.length_nil];omega) (zKv (by rw[zXp hzs]) rfl (by omega) (k3.trans (congrArg (·++_) hcs)))
     ·obtain⟨g,cap,cs,zs,hl0,hg,hgb,hcap,hroom,hcs,hzs,rfl⟩:=hF1.resolve_left λh=>hne h.1;simp only[go_sem,zE,zA,zM,zL,f1,fits,yUr,yQ7 hgb.symm,yQ3,yJs];refine yZv _ _ _ (ISt.put_same ..) rfl ⟨by show (L.length+1)*72<=_;omega,by show L.length+1<=_;omega⟩ ⟨hcap,hroom⟩ rfl ?_;intro g' cap' cs' hg' k1 k2 k3;obtain⟨gb',hgn⟩:=zQx hg hgb hg';simp only[go_sem,zE,zA,zL,f1,f2,f3,yQ7 gb'.symm,yQ7 hgb.symm,IV.one];rw[zQq hg hgb gb'];exact .snoc hzs (wW9 ia ib) hgn gb' k1 k2 (k3.trans (congrArg (·++_) hcs))
    ·have h2':¬ ((x2.length:Nat):Int)=2:=by omega
     simp only[go_sem,zE,f1,f2,f3,h2',decide_false,show decide (((7:Nat):Int)=7)=true from rfl];intro _;rw[xV1 λh=>h2 (by rw[i2.len,h.2])];exact hF1
   ·have h7':¬ (o:Int)=7:=by omega
    simp only[go_sem,zE,zA,f1,f2,f3,h7',decide_false];rw[xV1 λh=>h7 h.1];exact hF1
  ·rintro fr s2 _ ⟨hF2,rfl,f1,f2,f3⟩;simp only[go_sem,zE,f3];intro _;have hsl:=i2.len;refine LoopC.ctr x2.length (λk fr st' ds=>Fo ca m b12 B0 (l++yKa (.mk o n us sub)++yZq (sub.take k)) st'/\fr 1=.iv (.cptr (ptr b12))/\fr 2=.iv (ptr b6)/\fr 107=.iv (.sl t2 x2)/\fr 108=.iv (.raw (.int .i64 x2.length))/\fr 109=.iv (.raw (.int .i64 (k:Int)))/\ds=[]) ?_ ?_ ?_
   ·simp only[go_sem,zE];simpa[yZq] using ⟨hF2,f1,f2⟩
   ·rintro k fr st1 _ hlt ⟨hF3,f1,f2,f107,f108,f109,rfl⟩;rw[hsl] at hlt;obtain⟨g,hg⟩:=yQ1 hlt;obtain⟨z,hz,hgz⟩:=i2.get hg;have IHg:=IH g (lMg hg) ca m b6 b12 z hgz B0 st1 _ h6 n6 (vQw hlen hg) hF3;cases g with
    | mk og ng ug sg =>
    obtain⟨tg1,xg1,tg2,xg2,rfl,hgg⟩:=hgz.mk;simp only[go_sem,zE,zB,zA,zL,f2,f107,f108,f109,lt_i (show k<x2.length by omega),yQ4 e2,iNn,hz,fits,IV.one];rw[hF3.self h6 n6];simp only[go_sem];refine IHg.mono ?_;rintro _ st1 hF4;simp only[go_sem,zE,f1,f2,f107,f108,f109,yQd (show k<x2.length by omega) (show x2.length<=281474976710656 by omega)];rw[yGi hg,<- List.append_assoc];exact hF4
   ·rintro fr st1 _ ⟨hF3,f1,f2,f107,f108,f109,rfl⟩;rw[hsl,lTl] at hF3;simp only[go_sem,f108,f109,yQl (nLi _)];refine yQ0 ?_;rw[cloF,<- List.append_assoc];exact hF3
 ·rcases hF with⟨rfl,rfl⟩|⟨g,cap,cs,zs,hl0,hg,hgb,hcap,hroom,hcs,hzs,rfl⟩
  ·simp only[go_sem,zE,zA,zM,zL,fits,yUr,yQ3,wKm];intro g cap hgc;obtain⟨hg,hc1⟩:=hgc;have gb:g≠b12:=by rintro rfl;rw[ISt.put_same] at hg;cases hg
   rw[yQ7 gb] at hg;simp only[go_sem,zA,zL,yQ7 gb.symm,yQ7 gb,IV.one,show ((0:Int)<=((0:Nat):Int)/\(0:Nat)<1)=True from eq_true (by decide),List.flatMap_cons,List.flatMap_nil,IV.cells,List.append_nil,List.cons_append,List.nil_append];rw[zYc gb,yQ6];exact .first hx hg gb hc1 (by simp;omega) rfl
  ·simp only[go_sem,zE,zA,zM,zL,fits,yUr,yQ7 hgb.symm,yQ3,wKm];refine yZv _ _ _ (ISt.put_same ..) rfl ⟨by show (l.length+1)*72<=_;omega,by show l.length+1<=_;omega⟩ ⟨hcap,hroom⟩ rfl ?_;intro g' cap' cs' hg' k1 k2 k3;obtain⟨gb',hgn⟩:=zQx hg hgb hg';simp only[go_sem,zE,zA,zL,yQ7 gb'.symm,yQ7 gb',yQ7 hgb.symm,IV.one];have k2':cap'*4<=cs'.length:=k2;have k1':l.length+1<=cap':=k1;rw[if_pos ⟨iNn _,Nat.lt_succ_self _⟩,if_pos (by omega),zQq hg hgb gb',yQ6];exact .snoc hzs hx hgn gb' k1 (by simp only[lLa,List.length_take,List.length_drop,List.length_cons,List.length_nil];omega) (zKv (by rw[zXp hzs]) rfl (by omega) (k3.trans (congrArg (·++_) hcs)))
 ·rcases hF with⟨rfl,rfl⟩|⟨g,cap,cs,zs,hl0,hg,hgb,hcap,hroom,hcs,hzs,rfl⟩
  ·simp only[go_sem,zE,zA,zM,zL,fits,yUr,yQ3];intro g cap hgc;obtain⟨hg,hc1⟩:=hgc;have gb:g≠b12:=by rintro rfl;rw[ISt.put_same] at hg;cases hg
   rw[yQ7 gb] at hg;simp only[go_sem,zA,zL,yQ7 gb.symm,IV.one];rw[zYc gb];exact .first hx hg gb hc1 (by simp[IV.cells];omega) rfl
  ·simp only[go_sem,zE,zA,zM,zL,fits,yUr,yQ7 hgb.symm,yQ3];refine yZv _ _ _ (ISt.put_same ..) rfl ⟨by show (l.length+1)*72<=_;omega,by show l.length+1<=_;omega⟩ ⟨hcap,hroom⟩ rfl ?_;intro g' cap' cs' hg' k1 k2 k3;obtain⟨gb',hgn⟩:=zQx hg hgb hg';simp only[go_sem,zE,zA,zL,yQ7 gb'.symm,yQ7 hgb.symm,IV.one];rw[zQq hg hgb gb'];exact .snoc hzs hx hgn gb' k1 k2 (k3.trans (congrArg (·++_) hcs))
mutual
theorem vWs:∀f:Fm,ColC gl f
 | .mk o n us sub=>wWr gl o n us sub (wGf sub)
theorem wGf:∀l:List Fm,∀a∈l,ColC gl a
 | [],_,h=>by cases h
 | b::l,a,h=>by
  rcases List.mem_cons.1 h with h1|h
  ·rw[h1];exact vWs b
  ·exact wGf l a h
end
theorem wZ4 (T:Gt gl)(ca m:Nat)(tw:Tag)(xw:List IV)(ln:Ln)(x:IV)(hx:IsLn ln x)(e:Ex)(y:IV)(hy:IsEx e y)(hl:ln.1.length<=300000/\ln.2.length<=300000/\e.1.1.length<=300000/\e.1.2.length<=300000/\e.2.1<=300000/\e.2.2<=300000)(st:ISt) :
  ICall prog gl 138 [spI ca tw xw m,x,y] st (λr st'=>(∃a b c d,r=.tup [.agg [.sl a b,.sl c d],.raw (.bool (!tooN (calJ ca) ln e))]/\(tooN (calJ ca) ln e=false->IsLn (yUx (calJ ca) ln e) (.agg [.sl a b,.sl c d])))/\st'=st):=by
 obtain⟨t1,t2,rfl,e1,e2⟩:=hx;obtain⟨t3,t4,rfl,e3,e4⟩:=hy;obtain⟨l1,l2,l3,l4,l5,l6⟩:=hl;have dc:decide ((ca:Int)=2)=calJ ca:=decide_eq_decide.2 (by omega);have w1:IntKind.i64.wrap ((ln.1.length:Int)+(e.2.1:Int))=((ln.1.length+e.2.1:Nat):Int):=by rw[w64 (by omega) (by omega)];omega
 have d1:decide ((64:Int)<((ln.1.length+e.2.1:Nat):Int))=decide (64<ln.1.length+e.2.1):=decide_eq_decide.2 (by omega);have d0:decide ((0:Int)<(e.2.2:Int))=decide (0<e.2.2):=decide_eq_decide.2 (by omega);have nl:(yQj [])=[]:=rfl;have hj:=λ(R:List Nat) (tR:Tag) (hR:okEs tR 1) (hRl:R.length<=300000) st=>wYz gl T R e.1.2 tR t4 hR e4 (by omega) st;have hj1:=λst=>wYz gl T ln.1 e.1.1 t1 t3 e1 e3 (by omega) st;refine ICall.intro (c:=cf prog gl [] [(5,[0,1,2,3,4,6,7,8,9,10,5,11,12,13,14])]) func138 rfl (by show _<=49;simp) (by kernel_rfl) ?_;generalize calJ ca=jj at dc ⊢;cases jj
 ·have hR:rgtN (false) ln e=ln.2:=by unfold rgtN;rw[if_neg (by simp)]
  have w2:IntKind.i64.wrap (((ln.2).length:Int)+(e.2.2:Int))=(((ln.2).length+e.2.2:Nat):Int):=by rw[w64 (by first|omega|(simp only[List.length_nil];omega)) (by first|omega|(simp only[List.length_nil];omega))];first|omega|(simp only[List.length_nil];omega)
  have d2:decide ((64:Int)<(((ln.2).length+e.2.2:Nat):Int))=decide (64<(ln.2).length+e.2.2):=decide_eq_decide.2 (by omega);by_cases h1:64<ln.1.length+e.2.1
  ·have ht:tooN (false) ln e=true:=by unfold tooN;rw[dEt h1];rfl
   simp only[go_sem,zE,zA,zL,reduceCtorEq,dc,fits,yQt,w1,d1,dEt h1];intros;exact yQ0 ⟨⟨_,_,_,_,by rw[ht];rfl,λh=>by rw[ht] at h;cases h⟩,rfl⟩
  ·by_cases h2:64<(ln.2).length+e.2.2
   ·have ht:tooN (false) ln e=true:=by unfold tooN;rw[hR,dEt h2,Bool.or_true]
    try simp only[List.length_nil] at w2 d2
    simp only[go_sem,zE,zA,zL,reduceCtorEq,dc,fits,yQt,w1,d1,dEf h1,w2,dEt h2,d2];intros;exact yQ0 ⟨⟨_,_,_,_,by rw[ht];rfl,λh=>by rw[ht] at h;cases h⟩,rfl⟩
   ·have ht:tooN (false) ln e=false:=by unfold tooN;rw[hR,dEf h1,dEf h2];rfl
    try simp only[List.length_nil] at w2 d2
    simp only[go_sem,zE,zA,reduceCtorEq,dc,fits,yQt,w1,d1,dEf h1,w2,dEf h2,d2];intros;refine (hj1 _).mono ?_;rintro _ st ⟨⟨t5,rfl,e5⟩,rfl⟩;simp only[go_sem,zE,zA];refine (hj (ln.2) t2 (by first|exact e2|exact .inl rfl) (by first|omega|(simp only[List.length_nil];omega)) _).mono ?_;rintro _ st ⟨⟨t6,rfl,e6⟩,rfl⟩;simp only[go_sem,zE,zA,zL,fits];exact yQ0 ⟨⟨_,_,_,_,by rw[ht];rfl,λ_=>⟨t5,t6,(by unfold yUx;rw[hR];try rfl),e5,e6⟩⟩,rfl⟩
 ·by_cases h0:0<e.2.2
  ·have hR:rgtN (true) ln e=([]:List Nat):=by unfold rgtN;rw[if_pos ⟨rfl,h0⟩]
   have w2:IntKind.i64.wrap (((([]:List Nat)).length:Int)+(e.2.2:Int))=(((([]:List Nat)).length+e.2.2:Nat):Int):=by rw[w64 (by first|omega|(simp only[List.length_nil];omega)) (by first|omega|(simp only[List.length_nil];omega))];first|omega|(simp only[List.length_nil];omega)
   have d2:decide ((64:Int)<(((([]:List Nat)).length+e.2.2:Nat):Int))=decide (64<(([]:List Nat)).length+e.2.2):=decide_eq_decide.2 (by omega);by_cases h1:64<ln.1.length+e.2.1
   ·have ht:tooN (true) ln e=true:=by unfold tooN;rw[dEt h1];rfl
    simp only[go_sem,zE,zA,zL,reduceCtorEq,dc,d0,dEt h0,fits,yQt,w1,d1,dEt h1];intros;exact yQ0 ⟨⟨_,_,_,_,by rw[ht];rfl,λh=>by rw[ht] at h;cases h⟩,rfl⟩
   ·by_cases h2:64<(([]:List Nat)).length+e.2.2
    ·have ht:tooN (true) ln e=true:=by unfold tooN;rw[hR,dEt h2,Bool.or_true]
     try simp only[List.length_nil] at w2 d2
     simp only[go_sem,zE,zA,zL,reduceCtorEq,dc,d0,dEt h0,fits,yQt,w1,d1,dEf h1,w2,dEt (show (64:Int)<(e.2.2:Int) by simp at h2;omega)];intros;exact yQ0 ⟨⟨_,_,_,_,by rw[ht];rfl,λh=>by rw[ht] at h;cases h⟩,rfl⟩
    ·have ht:tooN (true) ln e=false:=by unfold tooN;rw[hR,dEf h1,dEf h2];rfl
     try simp only[List.length_nil] at w2 d2
     simp only[go_sem,zE,zA,zL,reduceCtorEq,dc,d0,dEt h0,fits,yQt,w1,d1,dEf h1,w2,dEf (show ¬ (64:Int)<(e.2.2:Int) by simp at h2;omega)];intros;refine (hj1 _).mono ?_;rintro _ st ⟨⟨t5,rfl,e5⟩,rfl⟩;simp only[go_sem,zE,zA];refine (hj (([]:List Nat)) ⟨true,.nil,0⟩ (by first|exact e2|exact .inl rfl) (by first|omega|(simp only[List.length_nil];omega)) _).mono ?_;rintro _ st ⟨⟨t6,rfl,e6⟩,rfl⟩;simp only[go_sem,zE,zA,zL,fits];exact yQ0 ⟨⟨_,_,_,_,by rw[ht];rfl,λ_=>⟨t5,t6,(by unfold yUx;rw[hR];try rfl),e5,e6⟩⟩,rfl⟩
  ·have hR:rgtN (true) ln e=ln.2:=by unfold rgtN;rw[if_neg λh=>h0 h.2]
   have w2:IntKind.i64.wrap (((ln.2).length:Int)+(e.2.2:Int))=(((ln.2).length+e.2.2:Nat):Int):=by rw[w64 (by first|omega|(simp only[List.length_nil];omega)) (by first|omega|(simp only[List.length_nil];omega))];first|omega|(simp only[List.length_nil];omega)
   have d2:decide ((64:Int)<(((ln.2).length+e.2.2:Nat):Int))=decide (64<(ln.2).length+e.2.2):=decide_eq_decide.2 (by omega);by_cases h1:64<ln.1.length+e.2.1
   ·have ht:tooN (true) ln e=true:=by unfold tooN;rw[dEt h1];rfl
    simp only[go_sem,zE,zA,zL,reduceCtorEq,dc,d0,dEf h0,fits,yQt,w1,d1,dEt h1];intros;exact yQ0 ⟨⟨_,_,_,_,by rw[ht];rfl,λh=>by rw[ht] at h;cases h⟩,rfl⟩
   ·by_cases h2:64<(ln.2).length+e.2.2
    ·have ht:tooN (true) ln e=true:=by unfold tooN;rw[hR,dEt h2,Bool.or_true]
     try simp only[List.length_nil] at w2 d2
     simp only[go_sem,zE,zA,zL,reduceCtorEq,dc,d0,dEf h0,fits,yQt,w1,d1,dEf h1,w2,dEt h2,d2];intros;exact yQ0 ⟨⟨_,_,_,_,by rw[ht];rfl,λh=>by rw[ht] at h;cases h⟩,rfl⟩
    ·have ht:tooN (true) ln e=false:=by unfold tooN;rw[hR,dEf h1,dEf h2];rfl
     try simp only[List.length_nil] at w2 d2
     simp only[go_sem,zE,zA,reduceCtorEq,dc,d0,dEf h0,fits,yQt,w1,d1,dEf h1,w2,dEf h2,d2];intros;refine (hj1 _).mono ?_;rintro _ st ⟨⟨t5,rfl,e5⟩,rfl⟩;simp only[go_sem,zE,zA];refine (hj (ln.2) t2 (by first|exact e2|exact .inl rfl) (by first|omega|(simp only[List.length_nil];omega)) _).mono ?_;rintro _ st ⟨⟨t6,rfl,e6⟩,rfl⟩;simp only[go_sem,zE,zA,zL,fits];exact yQ0 ⟨⟨_,_,_,_,by rw[ht];rfl,λ_=>⟨t5,t6,(by unfold yUx;rw[hR];try rfl),e5,e6⟩⟩,rfl⟩
def plcs (ln:Ln):List (Nat×Bool):=(ln.1.map λi=>(i,false))++ln.2.map λi=>(i,true)
abbrev plcI (p:Nat×Bool):IV:=.agg [.raw (.int .i64 (p.1:Int)),.raw (.bool p.2)]
def plX (ln:Ln):Nat->List IV->Prop:=λk a=>∃p,(plcs ln)[k]?=some p/\a=[plcI p]
theorem yUy (ln:Ln):(plcs ln).length=ln.1.length+ln.2.length:=by simp[plcs]
theorem xVd (ln:Ln)(x:IV)(hx:IsLn ln x)(st:ISt):ICall prog gl 130 [x] st (λr st'=>r=.fn (.func 174) [] [.cptr x]/\st'=st):=by
 obtain⟨t1,t2,rfl,e1,e2⟩:=hx;refine ICall.intro (c:=cf prog gl [] [] [1]) func130 rfl (by show _<=4;simp) (by kernel_rfl) ?_;simp only[go_sem,zE];exact yQ0 ⟨rfl,rfl⟩
theorem zUy (ln:Ln)(x:IV)(hx:IsLn ln x)(hl:ln.1.length<=1000000/\ln.2.length<=1000000)(I:Nat->ISt->Prop):IterC prog gl 174 [] [.cptr x] (plX ln) (plcs ln).length I:=by
 obtain⟨t1,t2,rfl,e1,e2⟩:=hx;rintro y I' S' st ⟨f,fi,ca,rfl,hfn,hent⟩ _ hy h0;change ICall prog gl _ [.fn f fi ca,_] st _;refine iI func174 ?_;simp only[go_sem,fits,yQt];intros;refine LoopC.ctr ln.1.length (λk fr st' ds=>I' k st'/\fr 0=.iv (.fn f fi ca)/\fr 1=.iv (.cptr (.agg [.sl t1 (yQj ln.1),.sl t2 (yQj ln.2)]))/\fr 8=.iv (.sl t1 (yQj ln.1))/\fr 9=.iv (.raw (.int .i64 ln.1.length))/\fr 10=.iv (.raw (.int .i64 (k:Int)))/\ds=[]) ?_ ?_ ?_
 ·simp only[go_sem,zE,reduceCtorEq];exact⟨h0,rfl⟩
 ·rintro k fr st _ hlt ⟨hI,f0,f1,f8,f9,f10,rfl⟩;obtain⟨n,hn⟩:=yQ1 hlt;have hcall:=hy k [plcI (n,false)] st ⟨(n,false),by unfold plcs;rw[List.getElem?_append_left (by simpa using hlt),List.getElem?_map,hn];rfl,rfl⟩ hI;simp only[go_sem,zE,zA,zL,reduceCtorEq,f0,f8,f9,f10,lt_i hlt,yQ4 e1,iNn,yXu hn,fits];refine yZ2 hent (hcall.mono ?_);rintro _ st (⟨rfl,h⟩|⟨rfl,h⟩)
  ·simp only[go_sem,zE,reduceCtorEq,f0,f1,f8,f9,f10,yQd hlt (show ln.1.length<=281474976710656 by omega)];exact h
  ·simp only[go_sem];exact yQ0 (.inr h)
 ·rintro fr st _ ⟨hI,f0,f1,f8,f9,f10,rfl⟩;simp only[go_sem,zE,f1,f9,f10,yQl (nLi _),yQt];intro _;refine LoopC.ctr ln.2.length (λk fr st' ds=>I' (ln.1.length+k) st'/\fr 0=.iv (.fn f fi ca)/\fr 21=.iv (.sl t2 (yQj ln.2))/\fr 22=.iv (.raw (.int .i64 ln.2.length))/\fr 23=.iv (.raw (.int .i64 (k:Int)))/\ds=[]) ?_ ?_ ?_
  ·simp only[go_sem,zE,reduceCtorEq];exact⟨hI,f0,rfl⟩
  ·rintro k fr st _ hlt ⟨hI,f0,f21,f22,f23,rfl⟩;obtain⟨n,hn⟩:=yQ1 hlt;have hcall:=hy (ln.1.length+k) [plcI (n,true)] st ⟨(n,true),by unfold plcs;rw[List.getElem?_append_right (by simp),List.length_map,Nat.add_sub_cancel_left,List.getElem?_map,hn];rfl,rfl⟩ hI;simp only[go_sem,zE,zA,zL,reduceCtorEq,f0,f21,f22,f23,lt_i hlt,yQ4 e2,iNn,yXu hn,fits];refine yZ2 hent (hcall.mono ?_);rintro _ st (⟨rfl,h⟩|⟨rfl,h⟩)
   ·simp only[go_sem,zE,reduceCtorEq,f0,f21,f22,f23,yQd hlt (show ln.2.length<=281474976710656 by omega)];exact h
   ·simp only[go_sem];exact yQ0 (.inr h)
  ·rintro fr st _ ⟨hI,f0,f21,f22,f23,rfl⟩;simp only[go_sem,f22,f23,yQl (nLi _)];refine yQ0 (.inl ?_);rw[yUy];exact hI
theorem wZl (m:Nat)(w x:IV)(c:List IV)(hw:w=.cptr (.agg c))(ln:Ln)(hx:IsLn ln x)(st:ISt):ICall prog gl 102 [w,x] st (λr st'=>r=.fn (.func 136) [] [.cptr x,.cptr w]/\st'=st):=by
 obtain⟨t1,t2,rfl,e1,e2⟩:=hx;subst hw;refine ICall.intro (c:=cf prog gl [] [] [2,3]) func102 rfl (by show _<=6;simp) (by kernel_rfl) ?_;simp only[go_sem,zE];exact yQ0 ⟨rfl,rfl⟩
theorem nanC (a:Int)(st:ISt):ICall prog gl 176 [.raw (.int .i64 a)] st (λr st'=>r=.raw (.bool false)/\st'=st):=by
 refine iI func176 ?_;simp only[go_sem,zE,reduceCtorEq,decide_true];exact yQ0 ⟨rfl,rfl⟩
theorem nanS (a:Int)(st:ISt):ICall prog gl 135 [.raw (.int .i64 a)] st (λr st'=>r=.raw (.bool false)/\st'=st):=by
 refine iI func135 ?_;simp only[go_sem,zE,reduceCtorEq,decide_true];exact yQ0 ⟨rfl,rfl⟩
theorem wW1 (a b:Int)(st:ISt):ICall prog gl 134 [.raw (.int .i64 a),.raw (.int .i64 b)] st (λr st'=>r=.raw (.bool (decide (a<b)))/\st'=st):=by
 refine iI func134 ?_;simp only[go_sem,zA,reduceCtorEq];refine (nanC gl _ _).mono ?_;rintro _ st ⟨rfl,rfl⟩;simp only[go_sem,zE,reduceCtorEq];exact yQ0 ⟨rfl,rfl⟩
theorem kQe (l:List Nat)(tg:Tag)(htg:okEs tg 1)(hl:Inc l)(hlen:l.length<=1099511627776)(n:Nat)(st:ISt) :
  ICall prog gl 101 [.sl tg (yQj l),.raw (.int .i64 (n:Int))] st
   (λr st'=>(∃(i:Nat),r=.tup [.raw (.int .i64 (i:Int)),.raw (.bool (decide (n∈l)))])/\st'=st):=by
 have hlt':∀ {i k a b:Nat},l[i]?=some a->l[k]?=some b->i<k->a<b:=λha hb hik=>by
  obtain⟨h1,h2⟩:=lGs ha;obtain⟨h3,h4⟩:=lGs hb;have:=List.pairwise_iff_getElem.1 hl _ _ h1 h3 hik
  rwa [h2,h4] at this
 have c1:=λn:Int=>yXz prog 3 208 zVl zG9 .i64 n;have c2:=λn:Int=>yXz prog 208 3 zG9 zVl .u64 n;refine iI func101 ?_;simp only[go_sem,zE,reduceCtorEq,yQt];intro _;refine LoopC.dec l.length (λm fr st' ds=>(∃lo hi,m=hi-lo/\lo<=hi/\hi<=l.length/\(∀k a,k<lo->l[k]?=some a->a<n)/\(∀k a,hi<=k->l[k]?=some a->¬ a<n)/\fr 7=.iv (.raw (.int .i64 (lo:Int)))/\fr 8=.iv (.raw (.int .i64 (hi:Int))))/\fr 0=.iv (.sl tg (yQj l))/\fr 1=.iv (.raw (.int .i64 (n:Int))) /\
  fr 6=.iv (.raw (.int .i64 l.length))/\st'=st/\ds=[]) ?_ ?_
 ·simp only[go_sem,zE,reduceCtorEq];refine⟨0,l.length,by omega,by omega,by omega,λk a hk=>absurd hk (by omega),λk a hk ha=>?_,rfl,rfl⟩;have:=(lGs ha).1;omega
 ·rintro m fr st1 _ ⟨⟨lo,hi,hm,hlh,hhn,h1,h2,f7,f8⟩,f0,f1,f6,rfl,rfl⟩;by_cases hlt:lo<hi
  ·obtain⟨hm1,hm2⟩:=wG4 hlh hhn hlen;obtain⟨a,ha⟩:=yQ1 (l:=l) (k:=(lo+hi) / 2) (by omega);simp only[go_sem,zE,zA,reduceCtorEq,f0,f1,f7,f8,lt_i hlt,c1,c2,show ((0:Int)<=1)=True from eq_true (by omega),wG3,hm1,hm2,yQ4 htg,iNn,yXu ha,fits];refine (wW1 gl _ _ _).mono ?_;rintro _ _ ⟨rfl,rfl⟩;by_cases hc:a<n
   ·simp only[go_sem,zE,reduceCtorEq,f0,f1,f6,f8,dEt (show (a:Int)<n by omega),yQd (show (lo+hi) / 2<l.length by omega) (show l.length<=281474976710656 by omega)];refine⟨hi-((lo+hi) / 2+1),by omega,(lo+hi) / 2+1,hi,rfl,by omega,hhn,λk b hk hb=>?_,h2,rfl,rfl⟩;rcases Nat.lt_or_ge k ((lo+hi) / 2) with h|h
    ·exact Nat.lt_trans (hlt' hb ha h) hc
    ·obtain rfl:k=(lo+hi) / 2:=by omega
     rw[ha] at hb;cases hb;exact hc
   ·simp only[go_sem,zE,reduceCtorEq,f0,f1,f6,f7,dEf (show ¬ (a:Int)<n by omega)];refine⟨(lo+hi) / 2-lo,by omega,lo,(lo+hi) / 2,rfl,by omega,by omega,h1,λk b hk hb=>?_,rfl,rfl⟩;rcases Nat.lt_or_ge ((lo+hi) / 2) k with h|h
    ·have:=hlt' ha hb h;omega
    ·obtain rfl:k=(lo+hi) / 2:=by omega
     rw[ha] at hb;cases hb;exact hc
  ·obtain rfl:lo=hi:=by omega
   have hmem:n∈l↔l[lo]?=some n:=⟨λh=>by
    obtain⟨k,hk⟩:=List.mem_iff_getElem?.1 h;rcases Nat.lt_trichotomy k lo with h|h|h
    ·exact absurd (h1 k n h hk) (nLi _)
    ·rwa [<- h]
    ·obtain⟨b,hb⟩:=yQ1 (l:=l) (k:=lo) (by have:=(lGs hk).1;omega);exact absurd (hlt' hb hk h) (h2 lo b (Nat.le_refl _) hb),lMg⟩
   by_cases hln:lo<l.length
   ·obtain⟨a,ha⟩:=yQ1 hln;by_cases hc:a=n
    ·subst hc;have hd:decide (a∈l)=true:=dEt (hmem.2 ha);rw[hd];simp only[go_sem,zE,reduceCtorEq,f0,f1,f6,f7,f8,yQl (nLi _),lt_i hln,yQ4 htg,iNn,yXu ha,fits,decide_true];exact yQ0 ⟨⟨lo,rfl⟩,rfl⟩
    ·have hd:decide (n∈l)=false:=dEf λh=>by
      rw[hmem,ha] at h;cases h;exact hc rfl
     rw[hd];simp only[go_sem,zE,zA,reduceCtorEq,f0,f1,f6,f7,f8,yQl (nLi _),lt_i hln,yQ4 htg,iNn,yXu ha,fits,dEf (show ¬ (a:Int)=n by omega)];refine (nanS gl _ _).mono ?_;rintro _ _ ⟨rfl,rfl⟩;simp only[go_sem,zE];exact yQ0 ⟨⟨lo,rfl⟩,rfl⟩
   ·have hd:decide (n∈l)=false:=dEf λh=>by
     rw[hmem] at h;exact hln (lGs h).1
    rw[hd];simp only[go_sem,zE,f6,f7,f8,yQl (nLi _),yQl hln];exact yQ0 ⟨⟨lo,rfl⟩,rfl⟩
def axW (W:List Fm)(ln:Ln):Option (Nat×Fm):=match ln.1.find? (λi=>decide (i∈ln.2)) with
 | some i=>some (1,(W[i]?).getD fm0)
 | none=>if (ln.1.any λi=>zVk ((W[i]?).getD fm0))=true then some (2,.mk 2 noN [] []) else none
theorem wJr {W:List Fm}{ln:Ln}(h:Ix W ln.1):(axW W ln).isSome=true↔clN W ln:=by
 unfold axW clN;cases hq:ln.1.find? (λi=>decide (i∈ln.2)) with
 | some i=>simp;exact .inl ⟨i,List.mem_of_find?_eq_some hq,by simpa using List.find?_some hq⟩
 | none =>
  have hno:¬ ∃i∈ln.1,i∈ln.2:=λ⟨i,h1,h2⟩=>by
   have:=List.find?_eq_none.1 hq i h1;simp[h2] at this
  simp only[hno,false_or];constructor
  ·intro h2;split at h2
   ·rename_i ha;obtain⟨i,hi,hf⟩:=List.any_eq_true.1 ha;obtain⟨f,hw⟩:=h.get hi;exact⟨i,hi,f,hw,by rw[hw] at hf;exact hf⟩
   ·cases h2
  ·rintro⟨i,hi,f,hw,hf⟩;rw[if_pos (List.any_eq_true.2 ⟨i,hi,by rw[hw];exact hf⟩)];rfl
theorem xU0 {p:Nat->Bool}{l:List Nat}{k a:Nat}(h:(l.take k).find? p=none)(ha:l[k]?=some a):(p a=true->l.find? p=some a)/\(p a=false->(l.take (k+1)).find? p=none):=by
 refine⟨λhp=>?_,λhp=>?_⟩
 ·obtain⟨h1,h2⟩:=lGs ha;rw[<- List.take_append_drop k l,List.find?_append,h,List.drop_eq_getElem_cons h1,h2];simp[hp]
 ·rw[yQ8 ha,List.find?_append,h];simp[hp]
theorem xW6 (f:Fm):zVk f=decide (f.op=2):=by cases f;rfl
theorem xK2 (ca m:Nat)(W:List Fm)(hS:SpOk ca W)(tw:Tag)(xw:List IV)(htw:okEs tw 4)(hxw:IsFms W xw)(ln:Ln)(hln:LnOk W ln)(x:IV)(hx:IsLn ln x)(st:ISt) :
  ICall prog gl 76 [spI ca tw xw m,x] st (λr st'=>(∃z,r=.tup [.raw (.int .u8 (((axW W ln).getD (0,fm0)).1:Int)),z,.raw (.bool (axW W ln).isSome)]/\IsFm ((axW W ln).getD (0,fm0)).2 z)/\st'=st):=by
 obtain⟨t1,t2,rfl,e1,e2⟩:=hx;have hl1:=yYq hln.1.1 hln.1.2;have hl2:=yYq hln.2.1 hln.2.2;have hWl:=hS.len;have hbs:=λn st=>kQe gl ln.2 t2 e2 hln.2.1 (by omega) n st;refine iI func76 ?_;simp only[go_sem,zE,yQt];intro _;refine LoopC.ctr ln.1.length (λk fr st' ds=>(ln.1.take k).find? (λi=>decide (i∈ln.2))=none/\fr 0=.iv (spI ca tw xw m)/\fr 3=.box [.sl t1 (yQj ln.1),.sl t2 (yQj ln.2)]/\(∃c,fr 5=.box c/\c.length=4) /\
  fr 14=.iv (.sl t1 (yQj ln.1))/\fr 15=.iv (.raw (.int .i64 ln.1.length))/\fr 16=.iv (.raw (.int .i64 (k:Int)))/\st'=st/\ds=[]) ?_ ?_ ?_
 ·simp only[go_sem,zE,reduceCtorEq];exact⟨rfl,⟨_,rfl,rfl⟩,rfl⟩
 ·rintro k fr st1 _ hlt ⟨hno,f0,f3,⟨c5,f5,hc5⟩,f14,f15,f16,rfl,rfl⟩;obtain⟨a,ha⟩:=yQ1 hlt;obtain⟨g,hg⟩:=hln.1.get (lMg ha);have hgl:=(lGs hg).1;obtain⟨q1,q2⟩:=xU0 hno ha;simp only[go_sem,zE,zA,f3,f14,f15,f16,lt_i hlt,yQ4 e1,iNn,yXu ha,fits];refine (hbs a _).mono ?_;rintro _ st ⟨⟨i,rfl⟩,rfl⟩;by_cases hin:a∈ln.2
  ·have hax:axW W ln=some (1,g):=by unfold axW;rw[q1 (dEt hin)];simp[hg]
   obtain⟨y,hky,hy⟩:=hxw.get hg;have hcp:=λst=>yWh gl g y hy (by have:=hS.size (lMg hg);omega) st;obtain⟨y1,y2,y3,y4,y5,y6,rfl⟩:=hy.agg;simp only[go_sem,zE,zB,zA,reduceCtorEq,f0,dEt hin,fits,hky,yQ4 htw,iNn];refine (hcp _).mono ?_;rintro z _ ⟨hz,rfl⟩;have hz':=hz.1;obtain⟨z1,z2,z3,z4,z5,z6,rfl⟩:=hz'.agg;simp only[go_sem,zE,zA,zL,f5,hc5];rw[hax];refine yQ0 ⟨⟨_,rfl,?_⟩,rfl⟩;exact hz'
  ·simp only[go_sem,zE,reduceCtorEq,f0,f3,f5,f14,f15,f16,dEf hin,yQd hlt (show ln.1.length<=281474976710656 by omega)];exact⟨q2 (dEf hin),_,rfl,hc5⟩
 ·rintro fr st1 _ ⟨hno,f0,f3,⟨c5,f5,hc5⟩,f14,f15,f16,rfl,rfl⟩;rw[lTl] at hno;simp only[go_sem,zE,f3,f15,f16,yQl (nLi _),yQt];intro _;refine LoopC.ctr ln.1.length (λk fr st' ds=>((ln.1.take k).any λi=>zVk ((W[i]?).getD fm0))=false/\fr 0=.iv (spI ca tw xw m)/\(∃c,fr 5=.box c/\c.length=4) /\
   fr 38=.iv (.sl t1 (yQj ln.1))/\fr 39=.iv (.raw (.int .i64 ln.1.length))/\fr 40=.iv (.raw (.int .i64 (k:Int)))/\st'=st1/\ds=[]) ?_ ?_ ?_
  ·simp only[go_sem,zE,reduceCtorEq];exact⟨rfl,f0,⟨_,f5,hc5⟩,rfl⟩
  ·rintro k fr st _ hlt ⟨hny,f0,⟨c5,f5,hc5⟩,f38,f39,f40,rfl,rfl⟩;obtain⟨a,ha⟩:=yQ1 hlt;obtain⟨g,hg⟩:=hln.1.get (lMg ha);have hgl:=(lGs hg).1;obtain⟨y,hky,hy⟩:=hxw.get hg;obtain⟨y1,y2,y3,y4,y5,y6,rfl⟩:=hy.agg;obtain rfl:y1=g.op:=vV3 hy;have htk:(ln.1.take (k+1)).any (λi=>zVk ((W[i]?).getD fm0))=decide (g.op=2):=by
    rw[yQ8 ha,List.any_append,hny,List.any_cons,List.any_nil,hg,<- xW6 g];simp
   by_cases h2:g.op=2
   ·have hax:axW W ln=some (2,.mk 2 noN [] []):=by
     unfold axW;rw[hno];simp only;rw[if_pos (List.any_eq_true.2 ⟨a,lMg ha,by rw[hg];simp[xW6,h2]⟩)]
    simp only[go_sem,zE,zA,zL,reduceCtorEq,f0,f5,f38,f39,f40,lt_i hlt,yQ4 e1,iNn,yXu ha,fits,hky,yQ4 htw,dEt (show (g.op:Int)=2 by omega),hc5];rw[hax];refine yQ0 ⟨⟨_,rfl,?_⟩,rfl⟩;simp only[IsFm,Option.getD_some];exact⟨_,_,_,_,rfl,by omega,.inl rfl,by simp only[IsTms],.inl rfl,by simp only[IsFms]⟩
   ·simp only[go_sem,zE,reduceCtorEq,f0,f5,f38,f39,f40,lt_i hlt,yQ4 e1,iNn,yXu ha,fits,hky,yQ4 htw,dEf (show ¬ (g.op:Int)=2 by omega),yQd hlt (show ln.1.length<=281474976710656 by omega)];exact⟨by rw[htk];exact dEf h2,_,rfl,hc5⟩
  ·rintro fr st _ ⟨hny,f0,⟨c5,f5,hc5⟩,f38,f39,f40,rfl,rfl⟩;rw[lTl] at hny;have hax:axW W ln=none:=by
    unfold axW;rw[hno];simp only;rw[if_neg (by rw[hny];simp)]
   simp only[go_sem,zE,zA,zL,f5,f39,f40,yQl (nLi _),hc5];rw[hax];refine yQ0 ⟨⟨_,rfl,?_⟩,rfl⟩;simp only[IsFm,Option.getD_none,fm0];exact⟨_,_,_,_,rfl,by omega,.inl rfl,by simp only[IsTms],.inl rfl,by simp only[IsFms]⟩
def b3 (p:Nat×Bool):List UInt8:=[UInt8.ofNat (p.1 / 65536),UInt8.ofNat (p.1 / 256),UInt8.ofNat p.1]
def keyL (ln:Ln):List UInt8:=(plcs ln).flatMap b3++[UInt8.ofNat ln.1.length]
def keyB (ln:Ln):ByteArray:=⟨(keyL ln).toArray⟩
def byI (l:List UInt8):List IV:=l.map λu=>.raw (.int .u8 (u.toNat:Int))
theorem xZc:∀l:List UInt8,yWy (byI l)=some l
 | []=>rfl
 | u::l=>by
  show yWy (.raw (.int .u8 (u.toNat:Int))::byI l)=_;rw[xJy,xZc l];rfl
theorem kw (k:Nat):IntKind.u8.wrap ((k:Nat):Int)=((UInt8.ofNat k).toNat:Int):=by
 simp[IntKind.wrap,IntKind.bits,IntKind.signed]
theorem ks8 (k:Nat):Int.fdiv (k:Int) (2 ^ min (Int.toNat 8) 64)=((k / 256:Nat):Int):=by
 rw[show (2:Int) ^ min (Int.toNat 8) 64=((256:Nat):Int) from rfl];exact (Int.ofNat_fdiv k 256).symm
theorem ks16 (k:Nat):Int.fdiv (k:Int) (2 ^ min (Int.toNat 16) 64)=((k / 65536:Nat):Int):=by
 rw[show (2:Int) ^ min (Int.toNat 16) 64=((65536:Nat):Int) from rfl];exact (Int.ofNat_fdiv k 65536).symm
theorem xGs (a b c:Operand):yKv 3 [(0,a),(1,b),(2,c)]=true:=rfl
theorem uW9 (ln:Ln)(x:IV)(hx:IsLn ln x)(hl:ln.1.length<=1000000/\ln.2.length<=1000000)(st:ISt) :
  ICall prog gl 99 [x] st (λr st'=>r=.raw (.string (keyB ln))/\st'=st):=by
 have hpc:=λst=>xVd gl ln x hx st;have hp1:=λI=>zUy gl ln x hx ⟨by omega,by omega⟩ I;obtain⟨t1,t2,rfl,e1,e2⟩:=hx;have hcv:=λn:Int=>yXz prog 3 5 zVl vKk .i64 n;refine ICall.intro (c:=cf prog gl [3] []) func99 rfl (by show _<=30;simp) (by kernel_rfl) ?_;simp only[go_sem,zE];refine λb=>yQ9 λhb=>?_;refine (hpc _).mono ?_;rintro _ st1 ⟨rfl,rfl⟩;simp only[go_sem,reduceCtorEq];refine RangeC.intro (plX ln) (plcs ln).length (λk st'=>∃t,st' b=some (.box [.sl t (byI (((plcs ln).take k).flatMap b3))])/\own st' t (3*k) 1 st/\subSt st st') (λ_ _=>False) (by simp only[go_sem]) ?_ ⟨_,ISt.put_same _ _ _,own.nil _ _ _ _ _,yQh hb⟩ ?_ (hp1 _) ?_ (λ_ _ _ h=>h.elim)
 ·rintro k a ⟨p,_,rfl⟩;rfl
 ·rintro k _ st1 ⟨⟨i,r⟩,hp,rfl⟩ ⟨t,h1,h2,h3⟩;simp only[go_sem,zE,zA,zM,zL,fits,h1,hcv,show ((0:Int)<=8)=True from eq_true (by omega),show ((0:Int)<=16)=True from eq_true (by omega),ks8,ks16,kw,xGs];have hkl:k<ln.1.length+ln.2.length:=by rw[<- yUy];exact (lGs hp).1
  have hbl:(byI (((plcs ln).take k).flatMap b3)).length=3*k:=by
   rw[byI,List.length_map];have:∀l:List (Nat×Bool),(l.flatMap b3).length=3*l.length:=λl=>by
    induction l with
    | nil=>rfl
    | cons a l ih=>rw[List.flatMap_cons,lLa,ih,List.length_cons];show 3+_=_;omega
   rw[this,List.length_take,yUy];omega
  refine xZe (m:=3) h2 hbl rfl h3 rfl (by simp[fits,IV.one]) (by simp only;omega) (by omega) λt' st2 h4 h5 h6=>?_;have h7:st2 b=some (.box [.sl t (byI (((plcs ln).take k).flatMap b3))]):=h6 b _ h1 λn h=>by cases h
  simp only[go_sem,zE,zL,h7];refine⟨t',?_,?_,yQa h5 hb⟩
  ·rw[yQ8 hp,List.flatMap_append];simp only[byI,List.map_append];rfl
  ·rw[show 3*(k+1)=3*k+3 by omega];exact h4.mono λg hg _=>by
    rw[yQ7 λh=>by rw[h,h7] at hg;cases hg];exact hg
 ·rintro st1 rr ⟨t,h1,h2,h3⟩;rw[lTl] at h1;simp only[go_sem,zE,zA,zM,zL,h1,fits,yQt,hcv,kw,yQ3];intro _;have hbl:(byI ((plcs ln).flatMap b3)).length=3*(plcs ln).length:=by
   rw[byI,List.length_map];have:∀l:List (Nat×Bool),(l.flatMap b3).length=3*l.length:=λl=>by
    induction l with
    | nil=>rfl
    | cons a l ih=>rw[List.flatMap_cons,lLa,ih,List.length_cons];show 3+_=_;omega
   exact this _
  have hpl:=yUy ln;refine xZe (m:=1) h2 hbl rfl h3 rfl (by simp[fits,IV.one]) (by simp only;omega) (by omega) λt' st2 h4 h5 h6=>?_;have hby:yWy (byI ((plcs ln).flatMap b3)++[.raw (.int .u8 ((UInt8.ofNat ln.1.length).toNat:Int))])=some (keyL ln):=by
   have:=xZc (keyL ln)
   rwa [keyL,byI,List.map_append] at this
  have hne:¬ keyL ln=[]:=by unfold keyL;simp
  have hsz:(keyL ln).toArray.size<=281474976710656:=by
   unfold keyL;rw[List.size_toArray,lLa];rw[byI,List.length_map] at hbl;rw[hbl];simp only[List.length_cons,List.length_nil];omega
  simp only[go_sem,hby,hne,Option.bind_some];exact yQg h5 ⟨rfl,rfl⟩
theorem wW8 {a b:Ln}(ha:(∀i∈a.1,i<16777216)/\∀i∈a.2,i<16777216)(hb:(∀i∈b.1,i<16777216)/\∀i∈b.2,i<16777216)(hl:a.1.length<256/\b.1.length<256)(h:keyB a=keyB b):a=b:=by
 have h1:keyL a=keyL b:=by
  have:=congrArg (λx:ByteArray=>x.data.toList) h;simpa[keyB] using this
 unfold keyL at h1;have h2:=List.append_inj_left' h1 rfl;have h3:=List.append_inj_right' h1 rfl;have hnum:∀n,n<16777216->(UInt8.ofNat (n / 65536)).toNat*65536+(UInt8.ofNat (n / 256)).toNat*256+(UInt8.ofNat n).toNat=n:=λn hn=>by
  simp only[UInt8.toNat_ofNat'];omega
 have key:∀(l m:List (Nat×Bool)),(∀p∈l,p.1<16777216)->(∀p∈m,p.1<16777216)->l.flatMap b3=m.flatMap b3->l.map (·.1)=m.map (·.1):=λl=>by
  induction l with
  | nil =>
   intro m _ _ h;cases m with
   | nil=>rfl
   | cons p m=>simp[b3] at h
  | cons p l ih =>
   intro m hl hm h;cases m with
   | nil=>simp[b3] at h
   | cons q m =>
    rw[List.flatMap_cons,List.flatMap_cons] at h;simp only[b3,List.cons_append,List.nil_append,List.cons.injEq] at h;obtain⟨e1,e2,e3,h⟩:=h;have n1:=hnum p.1 (hl p (.head _));have n2:=hnum q.1 (hm q (.head _));rw[e1,e2,e3,n2] at n1;rw[List.map_cons,List.map_cons,ih m (λx hx=>hl x (.tail _ hx)) (λx hx=>hm x (.tail _ hx)) h,n1]
 have hpl:∀c:Ln,(∀i∈c.1,i<16777216)/\(∀i∈c.2,i<16777216)->∀p∈plcs c,p.1<16777216:=λc hc p hp=>by
  rcases List.mem_append.1 hp with hp|hp
  ·obtain⟨i,hi,rfl⟩:=List.mem_map.1 hp;exact hc.1 i hi
  ·obtain⟨i,hi,rfl⟩:=List.mem_map.1 hp;exact hc.2 i hi
 have h4:=key (plcs a) (plcs b) (hpl a ha) (hpl b hb) h2;have hm:∀c:Ln,(plcs c).map (·.1)=c.1++c.2:=λc=>by simp[plcs,Function.comp_def]
 rw[hm,hm] at h4;have h5:a.1.length=b.1.length:=by
  have:=congrArg UInt8.toNat (List.cons.inj h3).1;simp only[UInt8.toNat_ofNat'] at this;omega
 exact Prod.ext (List.append_inj_left h4 h5) (List.append_inj_right h4 h5)
end Go.Proofs.Tryz
namespace Go.Iv
open Go
theorem ICallV.sub {P:Program}{gl:Nat->Option IV}{f:IV}{args:List IV}{st st0:ISt}{K:IV->ISt->Prop}(h:ICallV P gl f args st0 K)(hs:subSt st0 st):ICallV P gl f args st K:=by
 intro B X fv rs hg hst hf hv;obtain⟨hg1,he1⟩:=hg.sub (st:=st0) (by rw[hst];exact hs);refine (h B { X with st:=st0 } fv rs hg1 rfl (he1.v hf) ⟨hv.1,λi r c hr hc=>he1.v (hv.2 i r c hr hc)⟩).mono λv w' he=>?_;obtain⟨X',x,h1,h2,h3,h4,h5⟩:=he;exact⟨X',x,h1,h2,he1.trans h3,h4,h5⟩
theorem YieldL.none {P:Program}{gl:Nat->Option IV}{y:IV}{xs:Nat->List IV->Prop}{I:Nat->ISt->Prop}{S:ISt->Prop}(h:YieldL P gl y (zWc xs) I S){k:Nat}{a:List IV}{stu:ISt}(hx:xs k a)(hi:I k stu) :
  ICallV P gl y a stu λr st'=>(r=.raw (.bool true)/\I (k+1) st')\/(r=.raw (.bool false)/\S st') :=
 (h k a (λ_=>Option.none) stu ⟨hx,rfl⟩ (λ_ hb=>absurd rfl hb) hi).mono λr st' hr=>hr.imp (λ⟨h1,s1,h2,_,h4⟩=>⟨h1,h4▸h2⟩) id
end Go.Iv
namespace Go.Proofs.Tryz
open Go Go.Iv
set_option maxRecDepth 4000
variable (gl:Nat->Option IV)
abbrev Mv:=Nat×Nat×List Ln
def mvN (j:Bool)(ln:Ln)(i:Nat)(t:Tn):Option Mv:=if t.2.any (tooN j ln)=true then none else some (t.1,i,t.2.map (yUx j ln))
noncomputable def yXj (W:List Fm)(j:Bool)(ln:Ln)(p:Nat×Bool):List (Option Mv):=match W[p.1]? with
 | some f=>(yZr W j f p.2).map (mvN j ln p.1)
 | none=>[]
noncomputable def mvsN (W:List Fm)(j:Bool)(ln:Ln):List (Option Mv):=(plcs ln).flatMap (yXj W j ln)
def cutO {α:Type}:List (Option α)->List (Option α)
 | []=>[]
 | none::_=>[none]
 | some a::l=>some a::cutO l
theorem zXr {α:Type}:∀ {l m:List (Option α)},(∀o∈l,o≠none)->cutO (l++m)=l++cutO m
 | [],m,_=>rfl
 | none::l,m,h=>absurd rfl (h none (.head _))
 | some a::l,m,h=>by simp only[List.cons_append,cutO,zXr λo ho=>h o (.tail _ ho)]
theorem wWn {α:Type}{l:List (Option α)}(h:∀o∈l,o≠none):cutO l=l:=by
 have:=zXr (m:=[]) h;simpa[cutO] using this
theorem vQx {α:Type}{l m:List (Option α)}{o:Option α}(h:∀o∈l,o≠none):(cutO (l++o::m))[l.length]?=some o:=by
 rw[zXr h,List.getElem?_append_right (Nat.le_refl _),Nat.sub_self];cases o<;>rfl
theorem wJj {α:Type}{l m:List (Option α)}(h:∀o∈l,o≠none):(cutO (l++none::m)).length=l.length+1:=by
 rw[zXr h,lLa];rfl
def IsMv (v:Mv)(x:IV):Prop:=∃t ys,x=.agg [.raw (.int .u8 (v.1:Int)),.raw (.int .i64 (v.2.1:Int)),.sl t ys]/\okEs t 2/\AllR IsLn v.2.2 ys
def mvA:Option Mv->List IV->Prop
 | some v,a=>∃x,a=[x,.raw (.int .i64 0)]/\IsMv v x
 | none,a=>a=[.agg [.raw (.int .u8 0),.raw (.int .i64 0),.sl ⟨true,.nil,0⟩ []],.raw (.int .i64 5)]
noncomputable def mvX (W:List Fm)(j:Bool)(ln:Ln):Nat->List IV->Prop:=λk a=>∃o,(cutO (mvsN W j ln))[k]?=some o/\mvA o a
def SpSt (ca m:Nat)(W:List Fm)(st:ISt):Prop:=∃es,st m=some (.map .pl es)/\CacheOk ca W es
def SpUp (ca m:Nat)(W:List Fm):Nat->List (Value×IV)->List (Value×IV)->Prop:=λm' es es'=>m'=m/\(CacheOk ca W es->CacheOk ca W es')
theorem yG6 (W:List Fm)(l:List Fm):(zJs W l).length<=l.length:=by
 have:=zJd (l.map (noW W))
 rwa [List.length_map] at this
theorem xVr (G:Gl gl)(T:Gt gl)(ca m:Nat)(W:List Fm)(hS:SpOk ca W)(hWs:W.length<=200000)(tw:Tag)(xw:List IV)(htw:okEs tw 4)(hxw:IsFms W xw)(ln:Ln)(hln:LnOk W ln)(x:IV)(hx:IsLn ln x) :
  IterU prog gl 136 [] [.cptr x,.cptr (spI ca tw xw m)] (zWc (mvX W (calJ ca) ln)) (cutO (mvsN W (calJ ca) ln)).length (λ_=>SpSt ca m W) (SpUp ca m W):=by
 have hl1:=yYq hln.1.1 hln.1.2;have hl2:=yYq hln.2.1 hln.2.2;have hpc:=λst=>xVd gl ln x hx st;have hp1:=λI=>zUy gl ln x hx ⟨by omega,by omega⟩ I;obtain⟨t1,t2,rfl,e1,e2⟩:=hx;rintro y I' S' st ⟨f,fi,ca',rfl,hfn,hent⟩ hI hup hy h0;have hsp:∀ {k stu},I' k stu->SpSt ca m W stu:=λ{k stu} h=>by
  obtain⟨s0,h1,es,h2,h3⟩:=hI k stu h;exact⟨es,h1 _ _ h2,h3⟩
 change ICall prog gl _ [.fn f fi ca',_,_] st _;refine ICall.intro (c:=cf prog gl [] [] [3]) func136 rfl (by show _<=59;simp) (by kernel_rfl) ?_;simp only[go_sem,zE,zA,fits];refine (hpc _).mono ?_;rintro _ st ⟨rfl,rfl⟩;simp only[go_sem,reduceCtorEq]
 let pre:Nat->List (Option Mv):=λk=>((plcs ln).take k).flatMap (yXj W (calJ ca) ln)
 refine RangeC.intro (plX ln) (plcs ln).length (λk st'=>I' (pre k).length st'/\∀o∈pre k,o≠none) (λe st'=>e=.ret/\(S' st'\/I' (cutO (mvsN W (calJ ca) ln)).length st')) (by simp only[go_sem]) ?_ ⟨h0,λo ho=>by cases ho⟩ ?_ (hp1 _) ?_ ?_
 ·rintro k a ⟨p,_,rfl⟩;rfl
 ·rintro k _ st1 ⟨⟨i,r⟩,hp,rfl⟩ ⟨hik,hnn⟩;obtain⟨es,hm,hes⟩:=hsp hik;have hiW:i<W.length:=by
   have:=lMg hp;unfold plcs at this;rcases List.mem_append.1 this with h|h
   ·obtain⟨i',hi',he⟩:=List.mem_map.1 h;cases he;exact hln.1.2 _ hi'
   ·obtain⟨i',hi',he⟩:=List.mem_map.1 h;cases he;exact hln.2.2 _ hi'
  obtain⟨g,hg⟩:=yQ1 hiW;have huses:=vJ3 gl G T ca m W hS tw xw htw hxw i r g hg es hes st1 hm;simp only[go_sem,zE,zA,zL,fits];refine huses.mono ?_;rintro _ _ ⟨⟨t,ys,rfl,ht,hys⟩,es',hes',rfl⟩;have hik':=hup (pre k).length st1 m .pl es es' hik hm ⟨rfl,λ_=>hes'⟩;have hat:yXj W (calJ ca) ln (i,r)=(yZr W (calJ ca) g r).map (mvN (calJ ca) ln i):=by unfold yXj;rw[hg]
  have hsplit:∀q tt,(yZr W (calJ ca) g r)[q]?=some tt->∃rest,mvsN W (calJ ca) ln=(pre k++((yZr W (calJ ca) g r).take q).map (mvN (calJ ca) ln i))++mvN (calJ ca) ln i tt::rest:=λq tt hq=>by
   refine⟨((yZr W (calJ ca) g r).drop (q+1)).map (mvN (calJ ca) ln i)++((plcs ln).drop (k+1)).flatMap (yXj W (calJ ca) ln),?_⟩;have h1:plcs ln=(plcs ln).take k++(i,r)::(plcs ln).drop (k+1):=by
    obtain⟨h2,h3⟩:=lGs hp
    conv=>lhs;rw[<- List.take_append_drop k (plcs ln),List.drop_eq_getElem_cons h2,h3]
   have h4:yZr W (calJ ca) g r=(yZr W (calJ ca) g r).take q++tt::(yZr W (calJ ca) g r).drop (q+1):=by
    obtain⟨h2,h3⟩:=lGs hq
    conv=>lhs;rw[<- List.take_append_drop q (yZr W (calJ ca) g r),List.drop_eq_getElem_cons h2,h3]
   unfold mvsN
   conv=>lhs;rw[h1]
   rw[List.flatMap_append,List.flatMap_cons,hat]
   conv=>lhs;rw[h4]
   simp only[List.map_append,List.map_cons,List.append_assoc,List.cons_append,pre]
  have htl2:(yZr W (calJ ca) g r).length<=1000:=by
   have:=yGl (ca:=ca) (hS.pf (lMg hg)) r;unfold yZr;rw[List.length_map,<- List.length_map (f:=(·.1)),this];unfold yJx
   repeat' split
   all_goals simp
  simp only[go_sem];intro _;rw[hys.1];refine LoopC.ctr (yZr W (calJ ca) g r).length (λq fr st' ds=>I' ((pre k).length+q) st'/\(∀o∈((yZr W (calJ ca) g r).take q).map (mvN (calJ ca) ln i),o≠none)/\fr 1=.iv (.cptr (.agg [.sl t1 (yQj ln.1),.sl t2 (yQj ln.2)]))/\fr 2=.iv (.cptr (spI ca tw xw m))/\fr 3=.iv (.cptr (.fn f fi ca')) /\
   fr 4=.box [.raw (.int .i64 (i:Int)),.raw (.bool r)]/\fr 17=.iv (.sl t ys)/\fr 18=.iv (.raw (.int .i64 (yZr W (calJ ca) g r).length))/\fr 19=.iv (.raw (.int .i64 (q:Int)))/\ds=[]) ?_ ?_ ?_
  ·simp only[go_sem,zE];exact⟨hik',λ_ h=>h.elim,rfl⟩
  ·rintro q fr st2 _ hlt ⟨hiq,hnq,f1,f2,f3,f4,f17,f18,f19,rfl⟩;obtain⟨tt,htt⟩:=yQ1 hlt;obtain⟨rest,hrest⟩:=hsplit q tt htt;obtain⟨z,hzk,t3,zs,rfl,e3,hzs⟩:=hys.2 q tt htt;obtain⟨t0,ht0,rfl⟩:=List.mem_map.1 (lMg htt);have hAnn:∀o∈pre k++((yZr W (calJ ca) g r).take q).map (mvN (calJ ca) ln i),o≠none:=λo ho=>(List.mem_append.1 ho).elim (hnn o) (hnq o);have hAl:(pre k++((yZr W (calJ ca) g r).take q).map (mvN (calJ ca) ln i)).length=(pre k).length+q:=by rw[lLa,List.length_map,List.length_take];omega
   have ho:=vQx (l:=pre k++((yZr W (calJ ca) g r).take q).map (mvN (calJ ca) ln i)) (m:=rest) (o:=mvN (calJ ca) ln i (t0.1,t0.2.map (exW W))) hAnn;rw[<- hrest,hAl] at ho;have hp2:=zU1 ht0;have hpl:=xYh ht0;simp only[go_sem,zE,zB,zA,zL,f4,f17,f18,f19,lt_i hlt,yQ4 ht,iNn,hzk,fits];intro _;rw[hzs.1];refine LoopC.ctr (t0.2.map (exW W)).length (λv fr st' ds=>(∃t4 us,fr 7=.box [.raw (.int .u8 (t0.1:Int)),.raw (.int .i64 (i:Int)),.sl t4 us]/\AllR IsLn (((t0.2.map (exW W)).take v).map (yUx (calJ ca) ln)) us/\own st' t4 v 2 st2/\subSt st2 st')/\((t0.2.map (exW W)).take v).any (tooN (calJ ca) ln)=false /\
    fr 1=.iv (.cptr (.agg [.sl t1 (yQj ln.1),.sl t2 (yQj ln.2)]))/\fr 2=.iv (.cptr (spI ca tw xw m))/\fr 3=.iv (.cptr (.fn f fi ca')) /\
    fr 4=.box [.raw (.int .i64 (i:Int)),.raw (.bool r)]/\fr 17=.iv (.sl t ys)/\fr 18=.iv (.raw (.int .i64 (yZr W (calJ ca) g r).length))/\fr 19=.iv (.raw (.int .i64 (q:Int)))/\fr 29=.iv (.sl t3 zs)/\fr 30=.iv (.raw (.int .i64 (t0.2.map (exW W)).length))/\fr 31=.iv (.raw (.int .i64 (v:Int)))/\ds=[]) ?_ ?_ ?_
   ·simp only[go_sem,zE];exact⟨⟨_,_,rfl,AllR.nil,own.nil _ _ _ _ _,subSt.refl _⟩,rfl,f1,f2,f3,f4,f17,f18,f19,rfl⟩
   ·rintro v fr st3 _ hv ⟨⟨t4,us,f7,hus,hown,hsub⟩,hany,f1,f2,f3,f4,f17,f18,f19,f29,f30,f31,rfl⟩;obtain⟨e,he⟩:=yQ1 hv;obtain⟨ze,hze,hez⟩:=hzs.2 v e he;obtain⟨p0,hp0,rfl⟩:=List.mem_map.1 (lMg he);have hb1:=yG6 W p0.1;have hb2:=yG6 W p0.2;have hb3:=hpl p0 hp0;have hprem:=λst=>wZ4 gl T ca m tw xw ln _ ⟨t1,t2,rfl,e1,e2⟩ (exW W p0) ze hez ⟨by omega,by omega,by show (zJs W p0.1).length<=_;omega,by show (zJs W p0.2).length<=_;omega,by show p0.1.length<=_;omega,by show p0.2.length<=_;omega⟩ st;obtain⟨t5,t6,rfl,e5,e6⟩:=hez;simp only[go_sem,zE,zB,zA,zL,f1,f2,f29,f30,f31,lt_i hv,yQ4 e3,iNn,hze,fits];refine (hprem _).mono ?_;rintro _ st3 ⟨⟨b1,b2,b3,b4,rfl,hz'⟩,rfl⟩;cases htoo:tooN (calJ ca) ln (exW W p0) with
    | true =>
     have hmn:mvN (calJ ca) ln i (t0.1,t0.2.map (exW W))=none:=by
      unfold mvN;rw[if_pos (List.any_eq_true.2 ⟨_,lMg he,htoo⟩)]
     rw[hmn] at ho;have hlen:=wJj (m:=rest) hAnn;rw[<- hmn,<- hrest,hAl] at hlen;have hyc:=hy.none (k:=(pre k).length+q) (a:=[.agg [.raw (.int .u8 0),.raw (.int .i64 0),.sl ⟨true,.nil,0⟩ []],.raw (.int .i64 5)]) ⟨none,ho,rfl⟩ hiq;simp only[go_sem,zE,zA,zL,f3,fits];refine yZ2 hent ((hyc.sub hsub).mono ?_);rintro _ st4 (⟨rfl,h⟩|⟨rfl,h⟩)
     ·simp only[go_sem];exact .inr (hlen▸h)
     ·simp only[go_sem];exact .inl h
    | false =>
     have hln:=hz' htoo;simp only[go_sem,zE,zA,zM,zL,f7,fits,yQ3];have hul:us.length=v:=by rw[hus.1,List.length_map,List.length_take];omega
     refine yZf hown hul hsub rfl (by simp[fits,IV.one]) (by simp only;rw[List.length_map] at hv;omega) (by rw[List.length_map] at hv;omega) λt4' st4 hown4 hsub4 _=>?_;simp only[go_sem,zE,zA,zL,f1,f2,f3,f4,f7,f17,f18,f19,f29,f30,f31,yQd hv (show (t0.2.map (exW W)).length<=281474976710656 by rw[List.length_map];omega)];refine⟨⟨t4',_,rfl,?_,hown4,hsub4⟩,?_⟩
     ·rw[yQ8 he,List.map_append];exact hus.snoc hln
     ·rw[yQ8 he,List.any_append,hany];simp[htoo]
   ·rintro fr st3 _ ⟨⟨t4,us,f7,hus,hown,hsub⟩,hany,f1,f2,f3,f4,f17,f18,f19,f29,f30,f31,rfl⟩;rw[lTl] at hus hany;have hmn:mvN (calJ ca) ln i (t0.1,t0.2.map (exW W))=some (t0.1,i,(t0.2.map (exW W)).map (yUx (calJ ca) ln)):=by
     unfold mvN;rw[if_neg (by rw[hany];simp)]
    have hyc:=hy.none (k:=(pre k).length+q) (a:=[.agg [.raw (.int .u8 (t0.1:Int)),.raw (.int .i64 (i:Int)),.sl t4 us],.raw (.int .i64 0)]) ⟨_,ho,by rw[hmn];exact⟨_,rfl,t4,us,rfl,hown.es,hus⟩⟩ hiq;simp only[go_sem,zE,zA,zL,f3,f7,f30,f31,yQl (nLi _),fits];refine yZ2 hent ((hyc.sub hsub).mono ?_);rintro _ st4 (⟨rfl,h⟩|⟨rfl,h⟩)
    ·simp only[go_sem,zE,f1,f2,f3,f4,f17,f18,f19,yQd hlt (show (yZr W (calJ ca) g r).length<=281474976710656 by omega)];refine⟨h,λo ho'=>?_⟩;rw[yQ8 htt,List.map_append] at ho';rcases List.mem_append.1 ho' with h1|h1
     ·exact hnq o h1
     ·rw[List.mem_singleton.1 h1];show mvN (calJ ca) ln i (t0.1,t0.2.map (exW W))≠none;rw[hmn];simp
    ·simp only[go_sem];exact .inl h
  ·rintro fr st2 _ ⟨hiq,hnq,f1,f2,f3,f4,f17,f18,f19,rfl⟩;rw[lTl] at hnq;have hpk:pre (k+1)=pre k++(yZr W (calJ ca) g r).map (mvN (calJ ca) ln i):=by
    simp only[pre];rw[yQ8 hp,List.flatMap_append,List.flatMap_cons,List.flatMap_nil,List.append_nil,hat]
   simp only[go_sem,f18,f19,yQl (nLi _)];rw[hpk];refine⟨by rw[lLa,List.length_map];exact hiq,λo ho=>(List.mem_append.1 ho).elim (hnn o) (hnq o)⟩
 ·rintro st1 rr ⟨hik,hnn⟩;have hall:cutO (mvsN W (calJ ca) ln)=mvsN W (calJ ca) ln:=wWn λo ho=>hnn o (by simp only[pre];rw[lTl];exact ho);have hpl:(pre (plcs ln).length).length=(mvsN W (calJ ca) ln).length:=by simp only[pre];rw[lTl];rfl
  simp only[go_sem];refine yQ0 (.inl ?_);rw[hall,<- hpl];exact hik
 ·rintro e st1 rr ⟨rfl,h⟩;simp only[go_sem];exact yQ0 h.symm
end Go.Proofs.Tryz
namespace Go.Proofs.Tryz
open Go Go.Iv
abbrev Lk:=Nat×Nat×List Nat
abbrev Us:=Nat×Nat
def lkAt (links:List (List Lk))(u:Us):List Nat:=(((links[u.1]?).getD [])[u.2]?).elim [] λk=>k.2.2
def htG (cl:Nat->Prop)(links:List (List Lk)):Nat->Nat->Prop
 | 0,_=>False
 | k+1,i=>cl i\/∃lk∈(links[i]?).getD [],∀p∈lk.2.2,htG cl links k p
theorem zWl {cl:Nat->Prop}{links:List (List Lk)}:∀ {k m i:Nat},htG cl links k i->k<=m->htG cl links m i
 | 0,_,_,h,_=>h.elim
 | k+1,0,_,_,hm=>absurd hm (by omega)
 | k+1,m+1,i,h,hm=>h.imp id λ⟨lk,h1,h2⟩=>⟨lk,h1,λp hp=>zWl (h2 p hp) (by omega)⟩
def LstG (cl:Nat->Prop)(links:List (List Lk))(i h:Nat):Prop:=(0<h->htG cl links h i)/\∀k,htG cl links k i->0<h/\h<=k
def decW (ws:List (List Nat))(u:Us):List (List Nat):=ws.modify u.1 λl=>l.modify u.2 λx=>(x+255)%256
def atW (ws:List (List Nat))(u:Us):Option Nat:=((ws[u.1]?).getD [])[u.2]?
theorem zZf (ws:List (List Nat))(u v:Us):atW (decW ws u) v=if u=v then (atW ws v).map λx=>(x+255)%256 else atW ws v:=by
 unfold atW decW;rw[List.getElem?_modify];obtain⟨a,b⟩:=u;obtain⟨c,d⟩:=v;simp only[Prod.mk.injEq];by_cases h1:a=c
 ·subst h1;cases hq:ws[a]? with
  | none=>simp
  | some l =>
   simp only[if_true,Option.getD_some,true_and];by_cases h2:b=d
   ·subst h2;simp
   ·simp[h2]
 ·simp[h1]
abbrev Ss:=List Nat×List (List Nat)×List Nat
def yJ9 (H:Nat)(S:Ss)(u:Us):Ss :=
 if atW (decW S.2.1 u) u=some 0/\S.1[u.1]?=some 0 then (S.1.set u.1 H,decW S.2.1 u,S.2.2++[u.1]) else (S.1,decW S.2.1 u,S.2.2)
def usAt (us:List (List Us))(p:Nat):List Us:=(us[p]?).getD []
inductive Sett (us:List (List Us)):Nat->List Nat->List (List Nat)->List Nat->List Nat->Prop
 | done (H:Nat) (hs:List Nat) (ws:List (List Nat)):Sett us H hs ws [] hs
 | more {H:Nat} {hs r now:List Nat} {ws:List (List Nat)} (hn:now≠[])
   (h:Sett us (H+1) ((now.flatMap (usAt us)).foldl (yJ9 H) (hs,ws,[])).1 ((now.flatMap (usAt us)).foldl (yJ9 H) (hs,ws,[])).2.1 ((now.flatMap (usAt us)).foldl (yJ9 H) (hs,ws,[])).2.2 r):Sett us H hs ws now r
section
variable (H:Nat)(h0:List Nat)(rem:Us->Nat)
structure Part (U1:List Us)(S:Ss):Prop where
 len:S.1.length=h0.length
 ws:∀u x,atW S.2.1 u=some x->x+U1.count u=rem u
 new:∀i,S.1[i]?=some H↔h0[i]?=some 0/\∃k,(i,k)∈U1/\atW S.2.1 (i,k)=some 0
 old:∀i x,x≠H->(S.1[i]?=some x↔h0[i]?=some x/\¬ (x=0/\∃k,(i,k)∈U1/\atW S.2.1 (i,k)=some 0))
 nx:∀i,i∈S.2.2↔S.1[i]?=some H
 nd:S.2.2.Nodup
variable {H h0 rem}
theorem Part.step {U1:List Us}{S:Ss}{u:Us}(hP:Part H h0 rem U1 S)(hH:0<H)(hhs:∀i:Nat,h0[i]?≠some H)(hrem:∀v,rem v<=2)(hc:(U1++[u]).count u<=rem u)(hu:∃x,atW S.2.1 u=some x):Part H h0 rem (U1++[u]) (yJ9 H S u):=by
 obtain⟨x,hx⟩:=hu;have hxr:=hP.ws u x hx;have hcu:(U1++[u]).count u=U1.count u+1:=by simp
 have hx0:0<x:=by omega
 have hx2:=hrem u;have hd:atW (decW S.2.1 u) u=some (x-1):=by
  rw[zZf,if_pos rfl,hx,Option.map_some];congr 1;omega
 have hne:∀v,u≠v->atW (decW S.2.1 u) v=atW S.2.1 v:=λv h=>by rw[zZf,if_neg h]
 -- what waits no longer
 have hz:∀i,(∃k,(i,k)∈U1++[u]/\atW (decW S.2.1 u) (i,k)=some 0)↔(∃k,(i,k)∈U1/\atW S.2.1 (i,k)=some 0)\/(i=u.1/\x=1):=by
  intro i;constructor
  ·rintro⟨k,h1,h2⟩;by_cases h3:u=(i,k)
   ·subst h3;rw[hd] at h2;exact .inr ⟨rfl,by simp at h2;omega⟩
   ·rw[hne _ h3] at h2;rcases List.mem_append.1 h1 with h1|h1
    ·exact .inl ⟨k,h1,h2⟩
    ·exact absurd (List.mem_singleton.1 h1).symm h3
  ·rintro (⟨k,h1,h2⟩|⟨rfl,rfl⟩)
   ·refine⟨k,List.mem_append_left _ h1,?_⟩;by_cases h3:u=(i,k)
    ·subst h3;rw[hx] at h2;simp at h2;omega
    ·rw[hne _ h3];exact h2
   ·exact⟨u.2,List.mem_append_right _ (List.mem_singleton.2 rfl),hd⟩
 have hws:∀v y,atW (decW S.2.1 u) v=some y->y+(U1++[u]).count v=rem v:=λv y hy=>by
  by_cases h3:u=v
  ·subst h3;rw[hd] at hy;simp at hy;omega
  ·rw[hne _ h3] at hy;have:=hP.ws v y hy;rw[List.count_append,show[u].count v=0 by simp[h3]];exact this
 have h0H:(0:Nat)≠H:=by omega
 unfold yJ9;by_cases hcond:atW (decW S.2.1 u) u=some 0/\S.1[u.1]?=some 0
 ·rw[if_pos hcond];have hx1:x=1:=by rw[hd] at hcond;simp at hcond;omega
  obtain⟨hs0,hn0⟩:=(hP.old u.1 0 h0H).1 hcond.2;have hlt:u.1<S.1.length:=(lGs hcond.2).1;have hget:∀i,(S.1.set u.1 H)[i]?=if u.1=i then some H else S.1[i]?:=λi=>by
   rw[List.getElem?_set];simp only[hlt,if_true]
  refine⟨by simp[hP.len],hws,λi=>?_,λi y hy=>?_,λi=>?_,?_⟩
  ·simp only[hget,hz];by_cases hi:u.1=i
   ·subst hi;simp[hs0,hx1]
   ·rw[if_neg hi,hP.new i];constructor
    ·rintro⟨a,b⟩;exact⟨a,.inl b⟩
    ·rintro⟨a,b|⟨b,_⟩⟩
     ·exact⟨a,b⟩
     ·exact absurd b.symm hi
  ·simp only[hget,hz];by_cases hi:u.1=i
   ·subst hi;rw[if_pos rfl];constructor
    ·intro h;exact absurd (Option.some.inj h).symm hy
    ·rintro⟨a,b⟩;rw[hs0] at a;exact absurd ⟨(Option.some.inj a).symm,.inr ⟨rfl,hx1⟩⟩ b
   ·rw[if_neg hi,hP.old i y hy];constructor
    ·rintro⟨a,b⟩;refine⟨a,λ⟨c,d⟩=>b ⟨c,?_⟩⟩;rcases d with d|⟨d,_⟩
     ·exact d
     ·exact absurd d.symm hi
    ·rintro⟨a,b⟩;exact⟨a,λ⟨c,d⟩=>b ⟨c,.inl d⟩⟩
  ·simp only[hget];rw[List.mem_append,List.mem_singleton,hP.nx i];by_cases hi:u.1=i
   ·subst hi;simp
   ·rw[if_neg hi];exact⟨λh=>h.elim id λh=>absurd h.symm hi,.inl⟩
  ·refine List.nodup_append.2 ⟨hP.nd,List.nodup_cons.2 ⟨by simp,List.nodup_nil⟩,λa ha b hb=>?_⟩;rintro rfl;rw[List.mem_singleton] at hb;rw[hP.nx,hb,hcond.2] at ha;exact h0H (Option.some.inj ha)
 ·rw[if_neg hcond];have hstill:∀i,h0[i]?=some 0->i=u.1->x=1->∃k,(i,k)∈U1/\atW S.2.1 (i,k)=some 0:=by
   intro i h0 hi hx1;subst hi;refine Classical.byContradiction λhno=>hcond ⟨by rw[hd,hx1],?_⟩;exact (hP.old u.1 0 h0H).2 ⟨h0,λh=>hno h.2⟩
  refine⟨hP.len,hws,λi=>?_,λi y hy=>?_,hP.nx,hP.nd⟩
  ·simp only[hz];rw[hP.new i];constructor
   ·rintro⟨a,b⟩;exact⟨a,.inl b⟩
   ·rintro⟨a,b|⟨b,c⟩⟩
    ·exact⟨a,b⟩
    ·exact⟨a,hstill i a b c⟩
  ·simp only[hz];rw[hP.old i y hy];constructor
   ·rintro⟨a,b⟩;refine⟨a,λ⟨c,d⟩=>b ⟨c,?_⟩⟩;rcases d with d|⟨d,e⟩
    ·exact d
    ·exact hstill i (c▸a) d e
   ·rintro⟨a,b⟩;exact⟨a,λ⟨c,d⟩=>b ⟨c,.inl d⟩⟩
theorem Part.all (hH:0<H)(hhs:∀i:Nat,h0[i]?≠some H)(hrem:∀v,rem v<=2):∀(U2 U1:List Us) (S:Ss),Part H h0 rem U1 S->(∀v,(U1++U2).count v<=rem v)->(∀u∈U2,∃x,atW S.2.1 u=some x)->Part H h0 rem (U1++U2) (U2.foldl (yJ9 H) S)
 | [],U1,S,hP,_,_=>by simpa using hP
 | u::U2,U1,S,hP,hc,hu=>by
  have h1:=hP.step (u:=u) hH hhs hrem (by have:=hc u;rw[List.count_append,List.count_cons_self] at this;rw[List.count_append];simp;omega) (hu u (.head _));have hw:∀v,(atW (yJ9 H S u).2.1 v).isSome=(atW S.2.1 v).isSome:=λv=>by
   have:(yJ9 H S u).2.1=decW S.2.1 u:=by unfold yJ9;split<;>rfl
   rw[this,zZf];split<;>simp
  have:=Part.all hH hhs hrem U2 (U1++[u]) _ h1 (λ(v:Us)=>by simpa[List.append_assoc] using hc v) λv hv=>by
   obtain⟨x,hx⟩:=hu v (.tail _ hv);exact Option.isSome_iff_exists.1 ((hw v).trans (by rw[hx];rfl))
  simpa[List.append_assoc] using this
end
section
variable (cl:Nat->Prop)(links:List (List Lk))(us:List (List Us))
open Classical in
noncomputable def wt (k:Nat)(u:Us):Nat:=((lkAt links u).filter λp=>decide (¬ htG cl links k p)).length
structure Rnd (H:Nat)(hs:List Nat)(ws:List (List Nat))(now:List Nat):Prop where
 len:hs.length=links.length
 ww:∀u x,atW ws u=some x->x=wt cl links (H-2) u
 wd:∀u,lkAt links u≠[]->∃x,atW ws u=some x
 ht:∀i x,hs[i]?=some x->(0<x->htG cl links x i/\x<=H-1)/\∀k,k<=H-1->htG cl links k i->0<x/\x<=k
 nw:∀i,i∈now↔hs[i]?=some (H-1)
 nd:now.Nodup
variable {cl links us}
theorem xY7 {u:Us}(hus:∀p,(usAt us p).count u=(lkAt links u).count p):∀ {now:List Nat},now.Nodup->(now.flatMap (usAt us)).count u=((lkAt links u).filter λp=>decide (p∈now)).length
 | [],_=>by simp[List.filter_eq_nil_iff.2]
 | a::now,h=>by
  have h1:=List.nodup_cons.1 h;rw[List.flatMap_cons,List.count_append,hus,xY7 hus h1.2];generalize lkAt links u=l
  induction l with
  | nil=>rfl
  | cons b l ih =>
   simp only[List.filter_cons,List.count_cons,List.mem_cons];by_cases hb:b=a
   ·subst hb;simp[h1.1];simp at ih;omega
   ·by_cases hm:b∈now
    ·simp[hb,hm];simp at ih;omega
    ·simp[hb,hm];simp at ih;omega
open Classical in
theorem zWs {α:Type}{p q r:α->Bool}(h1:∀x,p x=true↔q x=true\/r x=true)(h2:∀x,¬ (q x=true/\r x=true)):∀l:List α,(l.filter p).length=(l.filter q).length+(l.filter r).length
 | []=>rfl
 | a::l=>by
  have ih:=zWs h1 h2 l;have ha:=h1 a;have hb:=h2 a;simp only[List.filter_cons];cases hp:p a<;>cases hq:q a<;>cases hr:r a<;>simp_all<;>omega
theorem wYv {i:Nat}{lk:Lk}(h:lk∈(links[i]?).getD []):∃k,lkAt links (i,k)=lk.2.2:=by
 obtain⟨k,hk⟩:=List.mem_iff_getElem?.1 h;exact⟨k,by simp only[lkAt,hk];rfl⟩
theorem uVo {i k:Nat}(h:lkAt links (i,k)≠[]):∃lk∈(links[i]?).getD [],lk.2.2=lkAt links (i,k):=by
 unfold lkAt at h ⊢;cases hq:((links[i]?).getD [])[k]? with
 | none=>simp[hq] at h
 | some lk=>exact⟨lk,lMg hq,by simp[]⟩
theorem xZp {k:Nat}{u:Us}:wt cl links k u=0↔∀p∈lkAt links u,htG cl links k p:=by
 unfold wt;rw[List.length_eq_zero_iff,List.filter_eq_nil_iff];simp
theorem uZn (k:Nat){u:Us}(h:(lkAt links u).length<=2):wt cl links k u<=2:=Nat.le_trans (List.length_filter_le _ _) h
open Classical in
theorem Rnd.next {H:Nat}{hs:List Nat}{ws:List (List Nat)}{now:List Nat}(hR:Rnd cl links H hs ws now)(hH:2<=H)(hus:∀p u,(usAt us p).count u=(lkAt links u).count p)(h2:∀u,(lkAt links u).length<=2)(hin:∀u,∀p∈lkAt links u,p<links.length) :
  Rnd cl links (H+1) ((now.flatMap (usAt us)).foldl (yJ9 H) (hs,ws,[])).1 ((now.flatMap (usAt us)).foldl (yJ9 H) (hs,ws,[])).2.1 ((now.flatMap (usAt us)).foldl (yJ9 H) (hs,ws,[])).2.2:=by
 have hex:∀i,i∈now->htG cl links (H-1) i/\¬ htG cl links (H-2) i:=λi hi=>by
  have h:=hR.ht i _ ((hR.nw i).1 hi);exact⟨(h.1 (by omega)).1,λh'=>by have:=(h.2 (H-2) (by omega) h').2;omega⟩
 have hnow:∀i,i<links.length->htG cl links (H-1) i->¬ htG cl links (H-2) i->i∈now:=λi hi h1 h3=>by
  obtain⟨x,hx⟩:=yQ1 (l:=hs) (hR.len▸hi);have h:=hR.ht i x hx;obtain⟨h4,h5⟩:=h.2 (H-1) (Nat.le_refl _) h1;have h6:¬ x<=H-2:=λh6=>h3 (zWl (h.1 h4).1 h6);exact (hR.nw i).2 (by rw[hx];congr 1;omega)
 have hhs:∀i:Nat,hs[i]?≠some H:=λi hi=>by
  have:=((hR.ht i H hi).1 (by omega)).2;omega
 have hcnt:∀u,wt cl links (H-2) u=wt cl links (H-1) u+(now.flatMap (usAt us)).count u:=λu=>by
  rw[xY7 (λp=>hus p u) hR.nd];unfold wt;have e:(lkAt links u).filter (λp=>decide (p∈now))=(lkAt links u).filter λp=>decide (htG cl links (H-1) p/\¬ htG cl links (H-2) p):=by
   refine List.filter_congr λp hp=>?_;rw[decide_eq_decide];exact⟨hex p,λh=>hnow p (hin u p hp) h.1 h.2⟩
  rw[e];refine zWs (λp=>?_) (λp=>?_) _
  ·simp only[dTe];constructor
   ·intro h;by_cases h1:htG cl links (H-1) p
    ·exact .inr ⟨h1,h⟩
    ·exact .inl h1
   ·rintro (h|h)
    ·exact λh'=>h (zWl h' (by omega))
    ·exact h.2
  ·simp only[dTe];exact λh=>h.1 h.2.1
 have hP0:Part H hs (wt cl links (H-2)) [] (hs,ws,[]):=by
  refine⟨rfl,λu x hx=>by rw[hR.ww u x hx];rfl,λi=>?_,λi x hx=>?_,λi=>?_,List.nodup_nil⟩
  ·simp[hhs i]
  ·simp
  ·simp[hhs i]
 have hin0:∀u∈now.flatMap (usAt us),lkAt links u≠[]:=λu hu h0=>by
  have:=List.count_pos_iff.2 hu;have h3:=hcnt u;unfold wt at h3;rw[h0] at h3;simp at h3;omega
 have hP:=Part.all (by omega) hhs (λv=>uZn _ (h2 v)) (now.flatMap (usAt us)) [] _ hP0 (λv=>by rw[List.nil_append];have:=hcnt v;omega) λu hu=>hR.wd u (hin0 u hu);rw[List.nil_append] at hP;have hsome:∀(l:List Us) (S:Ss) v,(atW (l.foldl (yJ9 H) S).2.1 v).isSome=(atW S.2.1 v).isSome:=λl=>by
  induction l with
  | nil=>intro S v;rfl
  | cons u l ih =>
   intro S v;rw[List.foldl_cons,ih];have:(yJ9 H S u).2.1=decW S.2.1 u:=by unfold yJ9;split<;>rfl
   rw[this,zZf];split<;>simp
 -- the moves that wait for nothing
 have hzero:∀i k,(i,k)∈now.flatMap (usAt us)->atW ((now.flatMap (usAt us)).foldl (yJ9 H) (hs,ws,[])).2.1 (i,k)=some 0->htG cl links H i:=λi k hu hz=>by
  have h3:=hP.ws _ _ hz;have h4:=hcnt (i,k);have h5:=xZp.1 (show wt cl links (H-1) (i,k)=0 by omega);obtain⟨lk,hlk,he⟩:=uVo (hin0 _ hu);obtain⟨n,hn⟩:∃n,H=n+1:=⟨H-1,by omega⟩
  rw[hn] at h5 ⊢;exact .inr ⟨lk,hlk,λp hp=>h5 p (he▸hp)⟩
 have hback:∀i,htG cl links H i->¬ htG cl links (H-1) i->∃k,(i,k)∈now.flatMap (usAt us)/\atW ((now.flatMap (usAt us)).foldl (yJ9 H) (hs,ws,[])).2.1 (i,k)=some 0:=λi h3 h4=>by
  obtain⟨n,hn⟩:∃n,H=n+2:=⟨H-2,by omega⟩
  have hH1:H-1=n+1:=by omega
  have hH2:H-2=n:=by omega
  rw[hH1] at h4;rw[hn] at h3;rcases h3 with h3|⟨lk,hlk,h3⟩
  ·exact absurd (.inl h3) h4
  ·obtain⟨k,hk⟩:=wYv hlk;have h5:wt cl links (H-1) (i,k)=0:=xZp.2 λp hp=>by rw[hk] at hp;rw[hH1];exact h3 p hp
   have h6:wt cl links (H-2) (i,k)≠0:=λh6=>h4 (.inr ⟨lk,hlk,λp hp=>by
    have:=xZp.1 h6 p (by rw[hk];exact hp)
    rwa [hH2] at this⟩)
   have h7:=hcnt (i,k);have hmem:(i,k)∈now.flatMap (usAt us):=List.count_pos_iff.1 (by omega);refine⟨k,hmem,?_⟩;obtain⟨x,hx⟩:=hR.wd _ (hin0 _ hmem);have h8:=hsome (now.flatMap (usAt us)) (hs,ws,[]) (i,k);rw[hx] at h8;obtain⟨y,hy⟩:=Option.isSome_iff_exists.1 h8;have:=hP.ws _ _ hy;rw[hy];congr 1;omega
 refine⟨hP.len.trans hR.len,λu x hx=>?_,λu hu=>?_,λi x hx=>?_,λi=>?_,hP.nd⟩
 ·have:=hP.ws u x hx;have:=hcnt u;rw[show H+1-2=H-1 by omega];omega
 ·obtain⟨x,hx⟩:=hR.wd u hu;have h8:=hsome (now.flatMap (usAt us)) (hs,ws,[]) u;rw[hx] at h8;exact Option.isSome_iff_exists.1 h8
 ·rw[show H+1-1=H by omega];by_cases hxH:x=H
  ·subst hxH;obtain⟨h3,k,h4,h5⟩:=(hP.new i).1 hx;refine⟨λ_=>⟨hzero i k h4 h5,Nat.le_refl _⟩,λm hm hh=>⟨by omega,?_⟩⟩;refine Classical.byContradiction λhlt=>?_;have:=((hR.ht i 0 h3).2 m (by omega) hh).1;omega
  ·obtain⟨h3,h4⟩:=(hP.old i x hxH).1 hx;obtain⟨h5,h6⟩:=hR.ht i x h3;refine⟨λh0=>⟨(h5 h0).1,by have:=(h5 h0).2;omega⟩,λm hm hh=>?_⟩;by_cases h7:htG cl links (H-1) i
   ·have h8:=h6 (H-1) (Nat.le_refl _) h7;by_cases hmH:m<=H-1
    ·exact h6 m hmH hh
    ·exact⟨h8.1,by omega⟩
   ·have hm2:m=H:=by
     refine Classical.byContradiction λhne=>h7 (zWl hh (by omega))
    subst hm2;have h9:x=0:=by
     rcases Nat.eq_zero_or_pos x with h|h
     ·exact h
     ·exact absurd (zWl (h5 h).1 (h5 h).2) h7
    exact absurd ⟨h9,hback i hh h7⟩ h4
 ·rw[show H+1-1=H by omega];exact hP.nx i
theorem Sett.right {H:Nat}{hs r now:List Nat}{ws:List (List Nat)}(h:Sett us H hs ws now r)(hR:Rnd cl links H hs ws now)(hH:2<=H)(hus:∀p u,(usAt us p).count u=(lkAt links u).count p)(h2:∀u,(lkAt links u).length<=2)(hin:∀u,∀p∈lkAt links u,p<links.length) :
  r.length=links.length/\∀i x,r[i]?=some x->LstG cl links i x:=by
 induction h with
 | more hn _ ih=>exact ih (hR.next hH hus h2 hin) (by omega)
 | done H hs ws =>
  refine⟨hR.len,λi x hx=>?_⟩;have hbase:∀i,i<links.length->htG cl links (H-1) i->htG cl links (H-2) i:=λi hi h1=>by
   obtain⟨x,hx⟩:=yQ1 (l:=hs) (hR.len▸hi);obtain⟨h3,h4⟩:=hR.ht i x hx;have h5:=h4 (H-1) (Nat.le_refl _) h1;have h6:x≠H-1:=λh6=>by
    have:=(hR.nw i).2 (by rw[hx,h6]);cases this
   exact zWl (h3 h5.1).1 (by omega)
  have hall:∀k i,i<links.length->htG cl links k i->htG cl links (H-2) i:=λk=>by
   induction k with
   | zero=>intro i _ h;exact h.elim
   | succ k ih =>
    intro i hi h;refine hbase i hi ?_;obtain⟨n,hn⟩:∃n,H=n+2:=⟨H-2,by omega⟩
    rw[hn,show n+2-2=n by omega] at ih;rw[hn];rcases h with h|⟨lk,hlk,h⟩
    ·exact .inl h
    ·refine .inr ⟨lk,hlk,λp hp=>ih p ?_ (h p hp)⟩;obtain⟨q,hq⟩:=wYv hlk;exact hin (i,q) p (by rw[hq];exact hp)
  have hi:i<links.length:=by rw[<- hR.len];exact (lGs hx).1
  obtain⟨h3,h4⟩:=hR.ht i x hx;refine⟨λh0=>(h3 h0).1,λk hk=>?_⟩;by_cases hkH:k<=H-1
  ·exact h4 k hkH hk
  ·have h5:=h4 (H-2) (by omega) (hall k i hi hk);exact⟨h5.1,by omega⟩
end
