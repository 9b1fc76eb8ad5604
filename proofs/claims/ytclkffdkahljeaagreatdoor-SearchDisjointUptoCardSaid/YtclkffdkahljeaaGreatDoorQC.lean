/- A new slice, handed back alone: fixed. -/
import Derived.Test.YtclkffdkahljeaaGreatDoorQB
import Derived.Test.YtclkffdkahljeaaGreatDoorLA
set_option linter.all false
open Nat renaming reduceEqDiff → zE,reduceBEq → zB,reduceAdd → zA,reduceMul → zM,reduceSub → zS,reduceLeDiff → zL
namespace Go.Iv
open Go
theorem ICall.fix1 {P:Program}{gl:Nat->Option IV}{f:FuncId}{args:List IV}{st:ISt}{K:IV->ISt->Prop}(h:ICall P gl f args st (λy st'=>K y st'\/∃g n cap cs es zs,st g=none/\y=.raw (.slice (some ⟨g,0,none⟩) n cap)/\st'=st.put g (some (.box cs)) /\
   zs.length=n/\n<=140737488355328/\n<=cap/\cap*es<=cs.length/\cs.take (n*es)=zs.flatMap IV.cells/\(∀z∈zs,z.cells.length=es)/\K (.sl ⟨true,.app g,es⟩ zs) st)) :
  ICall P gl f args st K:=by
 intro B X rs hg hst hv;subst hst;refine (h B X rs hg rfl hv).mono ?_;rintro e w' ⟨v,rfl,X',y,rfl,h2,h3,h4,hK|⟨g,n,cap,cs,es,zs,h0,rfl,hst',rfl,hn,hcap,hroom,htk,hz,hK⟩⟩
 ·exact⟨v,rfl,X',y,rfl,h2,h3,h4,hK⟩
 have hgn:=wXz h3 h0 (by rw[hst'];exact ISt.put_same ..);have hk:=zVi h0 hst';obtain rfl:=V.raw_inv h4;exact⟨_,rfl,X'.lendS _ X.st,_,rfl,h2.lendS hk,h3.trans (h2.lendS_ext hk),wXy h2 h0 hst' (Nat.le_trans hg.B hgn) hn hcap hroom htk hz,hK⟩
end Go.Iv
namespace Go.Proofs.Tryz
open Go Go.Iv
set_option maxRecDepth 4000
variable (gl:Nat->Option IV)
theorem zYv (l:List Nat):(yQi l).flatMap IV.cells=yQi l:=by
 induction l with
 | nil=>rfl
 | cons a l ih =>
  show IV.cells _++(yQi l).flatMap IV.cells=_;rw[ih];rfl
theorem zVu (l:List Nat):∀y∈yQi l,fits false 1 y=true:=λy hy=>by
 obtain⟨n,_,rfl⟩:=List.mem_map.1 hy;simp[fits,IV.one]
def xJq (l:List Nat)(st:ISt)(r:IV)(st':ISt):Prop:=(∃t,r=.sl t (yQi l)/\okEs t 1)/\st'=st
theorem zYw {f:FuncId}{args:List IV}{l:List Nat}{st:ISt}(hl:l.length<=140737488355328)
  (h:ICall prog gl f args st (λr st'=>xJq l st r st'\/∃g cap cs,st g=none/\r=.raw (.slice (some ⟨g,0,none⟩) l.length cap)/\st'=st.put g (some (.box cs))/\l.length<=cap/\cap<=cs.length/\cs.take l.length=yQi l)):ICall prog gl f args st (xJq l st):=by
 refine ICall.fix1 (h.mono λr st' hr=>?_);rcases hr with hr|⟨g,cap,cs,h1,rfl,rfl,h2,h3,h4⟩
 ·exact .inl hr
 ·exact .inr ⟨g,l.length,cap,cs,1,yQi l,h1,rfl,rfl,yQp l,hl,h2,by omega,by rw[Nat.mul_one,h4,zYv],λz hz=>vQw (zVu l z hz),⟨_,rfl,.inr rfl⟩,rfl⟩
theorem wJ9 (T:Gt gl)(a b:List Nat)(ta tb:Tag)(hta:okEs ta 1)(htb:okEs tb 1)(hl:a.length+b.length<=1000000)(st:ISt) :
  ICall prog gl 111 [.sl ta (yQi a),.sl tb (yQi b)] st (xJq (sdN (a++b)) st):=by
 have hsl:=zZi (a++b);rw[lLa] at hsl;have hcat:catL [(ta,yQi a),(tb,yQi b)]=yQi (a++b):=by simp[catL,zVv]
 have hcl:(catL [(ta,yQi a),(tb,yQi b)]).length=(a++b).length:=by rw[hcat,yQp]
 refine zYw gl (by omega) ?_;refine iI func111 ?_;simp only[go_sem,zE,zB,zA,zM,zS,zL,reduceCtorEq,fits];refine yZ4 rfl ?_;refine (wQ4 gl [(ta,yQi a),(tb,yQi b)] _ (.inr rfl) (λp hp y hy=>?_) (by rw[hcl,lLa];omega) _).mono ?_
 ·rcases List.mem_cons.1 hp with rfl|hp
  ·exact zVu a y hy
  ·obtain rfl:=List.mem_singleton.1 hp;exact zVu b y hy
 ·rintro _ _ (⟨t,rfl,ht,hn,rfl⟩|⟨g,cap,cs,hg,h1,h2,h3,rfl,rfl⟩)
  ·have hab:a++b=[]:=List.eq_nil_of_length_eq_zero (by rw[<- hcl,hn];rfl);rw[hab];simp only[go_sem,zE,zB,zA,zM,zS,zL,reduceCtorEq];refine (zQh gl t ht _).mono ?_;rintro _ _ ⟨rfl,rfl⟩;simp only[go_sem,zE,zB,zA,zM,zS,zL,reduceCtorEq];refine (yU3 gl t ht _).mono ?_;rintro _ _ ⟨⟨t',rfl,ht'⟩,rfl⟩;simp only[go_sem,zE,zB,zA,zM,zS,zL,reduceCtorEq];exact yQ0 (.inl ⟨⟨t',rfl,.inl ht'⟩,rfl⟩)
  ·rw[hcl] at h1 h3;rw[hcat,zYv] at h3;rw[hcl];have hcs:cs=yQi (a++b)++cs.drop (a++b).length:=by rw[<- h3,List.take_append_drop]
   have hsort:=zGr gl T (a++b) (cs.drop (a++b).length) g cap (st.put g (some (.box cs))) (by rw[lLa];omega) (by rw[ISt.put_same,<- hcs]);simp only[go_sem,zE,zB,zA,zM,zS,zL,reduceCtorEq];refine hsort.mono ?_;rintro _ _ ⟨rfl,m,hp,hs,rfl⟩;have hml:=hp.length_eq;have hcom:=zKp gl m (cs.drop (a++b).length) (by rw[hml,lLa];omega) g cap (by rw[hml];exact h1) ((st.put g (some (.box cs))).put g (some (.box (yQi m++cs.drop (a++b).length)))) (ISt.put_same ..);rw[hml] at hcom;simp only[go_sem,zE,zB,zA,zM,zS,zL,reduceCtorEq];refine hcom.mono ?_;rintro _ _ ⟨cs2,rfl,rfl,hl2,ht2,hk2⟩;rw[wJn hp hs] at ht2 hk2 ⊢;rw[yQ8,yQ8];simp only[go_sem,zE,zB,zA,zM,zS,zL,reduceCtorEq];refine yQ0 (.inr ⟨g,cap,cs2,hg,rfl,rfl,by omega,?_,ht2⟩);rw[hl2,lLa,yQp,List.length_drop,hml];omega
def OwnI (st:ISt)(l:List Nat)(x:IV)(st':ISt):Prop:=(l=[]/\x=.sl ⟨true,.nil,0⟩ []/\st'=st) \/
 ∃g cap cs,l≠[]/\st g=none/\l.length<=cap/\cap<=cs.length/\cs.take l.length=yQi l/\x=.raw (.slice (some ⟨g,0,none⟩) l.length cap)/\st'=st.put g (some (.box cs))
theorem wKq {st:ISt}{g g':Nat}{o o':Option IObj}(hg:st g=none):((st.put g o).put g none).put g' o'=st.put g' o':=by
 funext c;simp only[ISt.put_apply];split
 ·rfl
 ·split
  ·subst_vars;exact hg.symm
  ·rfl
theorem wQu {st:ISt}{g g':Nat}{o:Option IObj}(hg:st g=none)(h:g'=g\/(st.put g o) g'=none):st g'=none:=by
 rcases h with rfl|h
 ·exact hg
 ·rw[ISt.put_apply] at h;split at h
  ·rename_i h';rw[h'];exact hg
  ·exact h
abbrev spI (ca:Nat)(tw:Tag)(xw:List IV)(m:Nat):IV:=.cptr (.agg [.raw (.int .u8 (ca:Int)),.sl tw xw,.raw (.map (some m))])
theorem zYh (T:Gt gl)(ca m:Nat)(W:List Fm)(tw:Tag)(xw:List IV)(htw:okEs tw 4)(hxw:IsFms W xw)(hW:Srt W)(hWl:W.length<=1000000)(l:List Fm)(tg:Tag)(xs:List IV)(htg:okEs tg 4)(hx:IsFms l xs)(hl:l.length<=1000000)(hin:∀f∈l,f∈W)(st:ISt) :
  ICall prog gl 70 [spI ca tw xw m,.sl tg xs] st (xJq (zZu W l) st):=by
 have hnl:(zZu W l).length<=l.length:=by
  have:=zZi (l.map (noW W))
  rwa [List.length_map] at this
 refine zYw gl (by omega) ?_;refine ICall.intro (c:=cf prog gl [29] []) func70 rfl (by show _<=35;simp) (by kernel_rfl) ?_;simp only[go_sem,zE,zB,zA,zM,zS,zL,reduceCtorEq,hx.len];intro _;refine LoopC.ctr l.length (λk fr st' ds=>(∃x,fr 5=.iv x/\OwnI st ((l.take k).map (noW W)) x st')/\fr 0=.iv (spI ca tw xw m)/\fr 10=.iv (.sl tg xs)/\fr 11=.iv (.raw (.int .i64 l.length))/\fr 12=.iv (.raw (.int .i64 (k:Int)))/\ds=[]) ?_ ?_ ?_
 ·simp only[go_sem,zE,zB,zA,zM,zS,zL,reduceCtorEq];exact⟨⟨_,rfl,.inl ⟨rfl,rfl,rfl⟩⟩,rfl⟩
 ·rintro k fr st1 _ hlt ⟨⟨x,f5,hox⟩,f0,f10,f11,f12,rfl⟩;obtain⟨a,ha⟩:=yQ3 hlt;obtain⟨y,hky,hya⟩:=hx.get ha;have haW:=hin a (lMg ha);have hcall:=λst=>uJd gl W tw xw htw hxw hW (by omega) a y hya st;obtain⟨y1,y2,y3,y4,y5,y6,rfl⟩:=hya.agg;simp only[go_sem,zE,zB,zA,zM,zS,zL,reduceCtorEq,f0,f10,f11,f12,lt_i hlt,yQ4 htg,iNn,hky,fits];refine (hcall _).mono ?_;rintro _ st2 ⟨⟨i,b,rfl,hb1,hb2⟩,rfl⟩;obtain rfl:b=true:=hb1.2 haW;have hi:=wGu hW (hb2 rfl);have htk:(l.take (k+1)).map (noW W)=(l.take k).map (noW W)++[i]:=by rw[yQ7 ha,List.map_append,<- hi];rfl
  have hkl:((l.take k).map (noW W)).length=k:=by rw[List.length_map,List.length_take];omega
  rcases hox with⟨h0,rfl,rfl⟩|⟨g,cap,cs,h0,hg,h1,h2,h3,rfl,rfl⟩
  ·simp only[go_sem,zE,zB,zA,zM,zS,zL,reduceCtorEq,f5,fits,yQ1];intro g cap;refine yQ9 λhg=>?_;obtain⟨hg,hcap⟩:=hg;simp only[go_sem,zE,zB,zA,zM,zS,zL,reduceCtorEq,f0,f10,f11,f12,yQf hlt (show l.length<=281474976710656 by omega)];refine⟨_,rfl,.inr ⟨g,cap,_,?_,hg,?_,?_,?_,?_,rfl⟩⟩
   ·rw[htk];simp
   ·rw[htk,h0];exact hcap
   ·rw[lLa,List.length_replicate];show cap<=1+(cap-1)*1;omega
   ·rw[htk,h0];rfl
   ·rw[htk,h0];rfl
  ·simp only[go_sem,zE,zB,zA,zM,zS,zL,reduceCtorEq,f5,fits,yQ1];refine yXc _ _ _ (ISt.put_same ..) (by simp[fits,IV.one]) ⟨by show (_+1)*8<=_;omega,by show _+1<=_;omega⟩ ⟨h1,by simpa using h2⟩ (by simp[IV.cells]) ?_;intro g' cap' cs' hg' q1 q2 q3;simp only[Nat.mul_one] at q2 q3;rw[wKq hg];simp only[go_sem,zE,zB,zA,zM,zS,zL,reduceCtorEq,f0,f10,f11,f12,yQf hlt (show l.length<=281474976710656 by omega)];refine⟨_,rfl,.inr ⟨g',cap',cs',?_,wQu hg hg',?_,q2,?_,?_,rfl⟩⟩
   ·rw[htk];simp
   ·rw[htk,lLa];exact q1
   ·rw[htk,lLa,zVv,<- h3];exact q3
   ·rw[htk,lLa];rfl
 ·rintro fr st1 _ ⟨⟨x,f5,hox⟩,f0,f10,f11,f12,rfl⟩;rw[lTl] at hox;rcases hox with⟨h0,rfl,rfl⟩|⟨g,cap,cs,h0,hg,h1,h2,h3,rfl,rfl⟩
  ·have hn:zZu W l=[]:=by unfold zZu;rw[h0];rfl
   rw[hn];simp only[go_sem,zE,zB,zA,zM,zS,zL,reduceCtorEq,f5,f10,f11,f12,yQo (nLi _)];refine (zQh gl _ rfl _).mono ?_;rintro _ _ ⟨rfl,rfl⟩;simp only[go_sem,zE,zB,zA,zM,zS,zL,reduceCtorEq,f5];refine (yU3 gl _ rfl _).mono ?_;rintro _ _ ⟨⟨t',rfl,ht'⟩,rfl⟩;simp only[go_sem,zE,zB,zA,zM,zS,zL,reduceCtorEq];exact yQ0 (.inl ⟨⟨t',rfl,.inl ht'⟩,rfl⟩)
  ·have hml0:(l.map (noW W)).length=l.length:=List.length_map ..;have hcs:cs=yQi (l.map (noW W))++cs.drop (l.map (noW W)).length:=by rw[<- h3,List.take_append_drop]
   have hsort:=zGr gl T (l.map (noW W)) (cs.drop (l.map (noW W)).length) g cap (st.put g (some (.box cs))) (by omega) (by rw[ISt.put_same,<- hcs]);simp only[go_sem,zE,zB,zA,zM,zS,zL,reduceCtorEq,f5,f10,f11,f12,yQo (nLi _)];refine hsort.mono ?_;rintro _ _ ⟨rfl,q,hp,hs,rfl⟩;have hml:=hp.length_eq;have hcom:=zKp gl q (cs.drop (l.map (noW W)).length) (by omega) g cap (by omega) ((st.put g (some (.box cs))).put g (some (.box (yQi q++cs.drop (l.map (noW W)).length)))) (ISt.put_same ..);rw[hml] at hcom;simp only[go_sem,zE,zB,zA,zM,zS,zL,reduceCtorEq,f5];refine hcom.mono ?_;rintro _ _ ⟨cs2,rfl,rfl,hl2,ht2,hk2⟩;rw[wJn hp hs] at ht2 hk2 ⊢;rw[yQ8,yQ8];simp only[go_sem,zE,zB,zA,zM,zS,zL,reduceCtorEq];refine yQ0 (.inr ⟨g,cap,cs2,hg,rfl,rfl,?_,?_,ht2⟩)
   ·change (sdN (l.map (noW W))).length<=cap;omega
   ·rw[hl2,lLa,yQp,List.length_drop,hml];omega
def IsLn (ln:Ln)(x:IV):Prop:=∃t1 t2,x=.agg [.sl t1 (yQi ln.1),.sl t2 (yQi ln.2)]/\okEs t1 1/\okEs t2 1
theorem xXh (T:Gt gl)(ca m:Nat)(W:List Fm)(tw:Tag)(xw:List IV)(htw:okEs tw 4)(hxw:IsFms W xw)(hW:Srt W)(hWl:W.length<=1000000)(s:Sq)(x:IV)(hx:IsSq s x)(hl:s.l.length<=1000000/\s.r.length<=1000000)(hin:InW W (s.l,s.r))(st:ISt) :
  ICall prog gl 39 [spI ca tw xw m,x] st (λr st'=>IsLn (zVo W (s.l,s.r)) r/\st'=st):=by
 obtain⟨t1,x1,t2,x2,rfl,e1,i1,e2,i2⟩:=hx;have h1:=λst=>zYh gl T ca m W tw xw htw hxw hW hWl s.l t1 x1 e1 i1 hl.1 hin.1 st;have h2:=λst=>zYh gl T ca m W tw xw htw hxw hW hWl s.r t2 x2 e2 i2 hl.2 hin.2 st;refine ICall.intro (c:=cf prog gl [] [(1,[0,1,2,4,5,6,3,7,8,9])]) func39 rfl (by show _<=14;simp) (by kernel_rfl) ?_;simp only[go_sem,zE,zB,zA,zM,zS,zL,reduceCtorEq,fits];refine (h1 _).mono ?_;rintro _ _ ⟨⟨t3,rfl,e3⟩,rfl⟩;simp only[go_sem,zE,zB,zA,zM,zS,zL,reduceCtorEq,fits];refine (h2 _).mono ?_;rintro _ _ ⟨⟨t4,rfl,e4⟩,rfl⟩;simp only[go_sem,zE,zB,zA,zM,zS,zL,reduceCtorEq,fits];exact yQ0 ⟨⟨t3,t4,rfl,e3,e4⟩,rfl⟩
theorem zGu (qf:FuncId)(t:Tag)(ht:t.cap=.nil)(st:ISt):ICall prog gl 92 [.sl t [],.fn (.func qf) [] []] st (λr st'=>(∃t',r=.sl t' []/\t'.cap=.nil)/\st'=st):=by
 obtain⟨fs,c,es⟩:=t;obtain rfl:c=.nil:=ht;refine ICall.intro (c:=cf prog gl [22,27,42,47] []) func92 rfl (by show _<=66;simp) (by kernel_rfl) ?_;simp only[go_sem,zL,reduceCtorEq,show decide (((0:Nat):Int)<2)=true from rfl];exact yQ0 ⟨⟨_,rfl,rfl⟩,rfl⟩
noncomputable def zKq (ca rule:Nat)(main:Fm)(term:Tm)(name:ByteArray):List Sq×Nat :=
 if !yWc ca then ([],2) else match rowS ca rule with
  | none=>([],191)
  | some r=>zGq ca rule r main term name
theorem wWj (G:Gl gl)(T:Gt gl)(ca rule:Nat)(main:Fm)(y:IV)(hy:IsFm main y)(hm:main.size<=1000000)(term:Tm)(z:IV)(hz:IsTm term z)(ht:term.size<=1000000)(name:ByteArray)(st:ISt) :
  ICall prog gl 110 [.raw (.int .u8 ca),.raw (.int .u8 rule),y,z,.raw (.string name)] st (AdRD st (zKq ca rule main term name)):=by
 have hA:=λr hr st=>vZh gl G T ca rule r hr main y hy hm term z hz ht name st;have hkn:=λst=>xG4 gl ca st;obtain⟨o3,n3,t3,x3,t4,x4,rfl⟩:=hy.agg;obtain⟨v,un,tz,xz,rfl⟩:=wKa hz;unfold zKq;refine iI func110 ?_;simp only[go_sem,zE,zA,reduceCtorEq];refine (hkn _).mono ?_;rintro _ st ⟨rfl,rfl⟩;cases hk:yWc ca
 ·simp only[go_sem,zE];exact yQ0 ⟨_,_,rfl,.inl rfl,.inl rfl,rfl,rfl⟩
 simp only[go_sem,zA,reduceCtorEq];refine (wKl gl ca _).mono ?_;rintro _ _ ⟨b,hb,rfl,rfl⟩;cases hr:rowS ca rule with
 | none =>
  simp only[go_sem,zE,zA,zL,ISt.put_same,zZn,hr,Option.map_none,yUm];exact yQt (yQn hb) ⟨_,_,rfl,.inl rfl,.inl rfl,rfl,rfl⟩
 | some r =>
  have hcall:=hA r hr;obtain⟨rl,rr,op,asks⟩:=r;simp only[go_sem,zE,zA,zL,reduceCtorEq,ISt.put_same,zZn,hr,Option.map_some,zK4,rwI];refine (hcall _).mono ?_;rintro _ _ ⟨tg,xs,rfl,he,hap,hxs,rfl⟩;simp only[go_sem,zE];exact yQt (yQn hb) ⟨_,_,rfl,he,hap,hxs,rfl⟩
theorem wWk (G:Gl gl)(T:Gt gl)(ca rule:Nat)(main:Fm)(y:IV)(hy:IsFm main y)(hm:main.size<=1000000)(term:Tm)(z:IV)(hz:IsTm term z)(ht:term.size<=1000000)(name:ByteArray)(st:ISt) :
  ICall prog gl 110 [.raw (.int .u8 ca),.raw (.int .u8 rule),y,z,.raw (.string name)] st (AdR st (zKq ca rule main term name)) :=
 (wWj gl G T ca rule main y hy hm term z hz ht name st).mono AdRD.w
end Go.Proofs.Tryz
namespace Go.Proofs.Tryz
open Go Go.Iv
theorem wGn {ca:Nat}(hc:ca≠3)(f:Fm):f.ok=true->opsB ca f=true->PF f:=by
 refine xJa (p:=λf=>f.ok=true->opsB ca f=true->PF f) (λo n us sub ih h1 h2=>?_) f;simp only[Fm.ok,bAt] at h1;obtain⟨⟨hrow,_⟩,hok⟩:=h1;simp only[opsB,bAt,Bool.or_eq_true,dTe,if_neg hc] at h2;obtain⟨⟨⟨ho1,ho7⟩,hus⟩,hops⟩:=h2;have hus:us=[]:=List.isEmpty_iff.1 (hus.resolve_left hc);subst hus;have hsub:∀a∈sub,PF a:=by
  have key:∀l:List Fm,(∀a∈l,a∈sub)->yW6 l=true->yKw ca l=true->∀a∈l,PF a:=λl=>by
   induction l with
   | nil=>intro _ _ _ a ha;cases ha
   | cons b l ihl =>
    intro hm h1 h2 a ha;simp only[yW6,yKw,bAt] at h1 h2;rcases List.mem_cons.1 ha with rfl|ha
    ·exact ih a (hm a (.head _)) h1.1 h2.1
    ·exact ihl (λx hx=>hm x (.tail _ hx)) h1.2 h2.2 a ha
  exact key sub (λ_ h=>h) hok hops
 have ho:o=1\/o=2\/o=3\/o=4\/o=5\/o=6\/o=7:=by omega
 rcases ho with rfl|rfl|rfl|rfl|rfl|rfl|rfl<;>simp only[yJb,bAt,dTe] at hrow
 ·obtain rfl:sub=[]:=List.eq_nil_of_length_eq_zero hrow.2;exact .atom n
 ·obtain rfl:sub=[]:=List.eq_nil_of_length_eq_zero hrow.2;rw[hrow.1.1];exact .fls
 ·match sub,hrow.2 with
  | [a],_=>rw[hrow.1.1];exact .neg (hsub a (.head _))
 all_goals
  match sub,hrow.2 with
  | [a,b],_=>rw[hrow.1.1];exact .bin (by omega) (by omega) (hsub a (.head _)) (hsub b (.tail _ (.head _)))
theorem xY5 {ca:Nat}(hc:ca≠3){f:Fm}(h:fmB ca f=true):PF f:=by
 unfold fmB Fm.right at h;simp only[bAt] at h;exact wGn hc f h.1.1.1 h.2
theorem wVl {ca:Nat}{n:ByteArray}{us:List Tm}{a:Fm}(h:fmB ca (.mk 3 n us [a])=true):fmB ca a=true:=by
 unfold fmB Fm.right at *;simp only[bAt,dTe,Fm.ok,yW6,opsB,yKw,Fm.size,yQb,Fm.deep,yZ2] at *;obtain⟨⟨⟨⟨_,k1,_⟩,k2⟩,k3⟩,_,k4,_⟩:=h;have k2:=of_decide_eq_true k2;have k3:=of_decide_eq_true k3;exact⟨⟨⟨k1,by omega⟩,by omega⟩,k4⟩
theorem xQp {ca o:Nat}(ho:o≠3/\4<=o/\o<=7){n:ByteArray}{us:List Tm}{a b:Fm}(h:fmB ca (.mk o n us [a,b])=true):fmB ca a=true/\fmB ca b=true/\fmB ca (imF a b)=true/\fmB ca (imF b a)=true:=by
 have key:∀k,yJb k noN 0 2=true↔k=4\/k=5\/k=6\/k=7\/k=14:=λk=>by
  unfold yJb;split<;>simp_all
 unfold fmB Fm.right at *;simp only[bAt,dTe,Fm.ok,yW6,opsB,yKw,Fm.size,yQb,Fm.deep,yZ2,yYe,yQe,yQs,List.length_cons,List.length_nil,Nat.zero_add,Nat.reduceAdd,List.isEmpty_nil,Bool.or_true] at *;have h6:yJb 6 noN 0 2=true:=(key 6).2 (by omega);obtain⟨⟨⟨⟨⟨_,_⟩,k1,k2,_⟩,k3⟩,k4⟩,⟨⟨k5,k6⟩,k7⟩,k8,k9,_⟩:=h;have hle:6<=(if ca=3 then 9 else 7):=by split<;>omega
 have k3:=of_decide_eq_true k3;have k4:=of_decide_eq_true k4;exact⟨⟨⟨⟨k1,by omega⟩,by omega⟩,k8⟩,⟨⟨⟨k2,by omega⟩,by omega⟩,k9⟩,⟨⟨⟨⟨⟨h6,trivial⟩,k1,k2,trivial⟩,by omega⟩,dEt (by omega)⟩,⟨⟨by omega,hle⟩,trivial⟩,k8,k9,trivial⟩,⟨⟨⟨⟨⟨h6,trivial⟩,k2,k1,trivial⟩,by omega⟩,dEt (by omega)⟩,⟨⟨by omega,hle⟩,trivial⟩,k9,k8,trivial⟩⟩
def yJg (j:Bool)(op:Nat)(r:Bool):List Nat :=
 if op=3 then (if r=true then [4] else [3]) else if op=4 then (if r=true then [6] else [5])
 else if op=5 then (if r=true then (if j=true then [8,18] else [8]) else [7]) else if op=6 then (if r=true then [10] else [9])
 else if op=7 then (if r=true then [12] else [11]) else []
abbrev calJ (ca:Nat):Bool:=decide (ca=2)
abbrev tmZ:Tm:=.mk false noN []
def sqOf (p:Sn):Sq:=⟨p.1,p.2⟩
theorem yYb {ca:Nat}{f:Fm}(hf:PF f)(r:Bool):(addF (calJ ca) f r).map (·.1)=yJg (calJ ca) f.op r:=by
 cases hf with
 | atom n=>simp[addF,yJg,Fm.op]
 | fls=>simp[addF,yJg,Fm.op]
 | neg h=>cases r<;>simp[addF,yJg,Fm.op]
 | @bin o a b h4 h7 _ _ =>
  obtain rfl|rfl|rfl|rfl:o=4\/o=5\/o=6\/o=7:=by omega
  all_goals cases r<;>simp[addF,yJg,Fm.op]
  by_cases h:ca=2<;>simp[h]
theorem xUm {ca:Nat}(hc:ca=1\/ca=2){f:Fm}(h:fmB ca f=true){r:Bool}{t:Nat×List Sn}(ht:t∈addF (calJ ca) f r):zKq ca t.1 f tmZ noN=(t.2.map sqOf,0):=by
 have hc3:ca≠3:=by omega
 have hk:yWc ca=true:=by unfold yWc;rcases hc with rfl|rfl<;>rfl
 have key:∀R:Rw,rowS ca t.1=some R->f.op=R.op->R.asks=0->zKq ca t.1 f tmZ noN=(addS ca t.1 f ((f.subs[0]?).getD fm0) ((f.subs[1]?).getD fm0),0):=λR h1 h2 h3=>by
  unfold zKq;rw[hk,h1];exact yQk h (.inr h2) |>.trans (by rw[if_pos h3])
 have hpf:=xY5 hc3 h;cases hpf with
 | atom n=>simp[addF] at ht
 | fls=>simp[addF] at ht
 | neg ha =>
  cases r<;>simp[addF] at ht<;>subst ht<;>rw[key _ (by unfold rowS;rcases hc with rfl|rfl<;>rfl) rfl rfl]<;>rfl
 | @bin o a b h4 h7 _ _ =>
  obtain rfl|rfl|rfl|rfl:o=4\/o=5\/o=6\/o=7:=by omega
  all_goals rcases hc with rfl|rfl<;>cases r<;>simp[addF,calJ] at ht
  all_goals first
   | (subst ht;rw[key _ rfl rfl rfl];rfl)
   | (rcases ht with rfl|rfl<;>(rw[key _ rfl rfl rfl];rfl))
structure SpOk (ca:Nat)(W:List Fm):Prop where
 cal:ca=1\/ca=2
 srt:Srt W
 len:W.length<=1000000
 fm:∀f∈W,fmB ca f=true
 full:Full W
theorem SpOk.sub {ca:Nat}{W:List Fm}(h:SpOk ca W){f:Fm}(hf:f∈W){j r:Bool}{t:Nat×List Sn}(ht:t∈addF j f r){p:Sn}(hp:p∈t.2):InW W p:=h.full f hf j r t ht p hp
theorem SpOk.pf {ca:Nat}{W:List Fm}(h:SpOk ca W){f:Fm}(hf:f∈W):PF f:=xY5 (by have:=h.cal;omega) (h.fm f hf)
theorem SpOk.size {ca:Nat}{W:List Fm}(h:SpOk ca W){f:Fm}(hf:f∈W):f.size<=400:=by
 have:=h.fm f hf;unfold fmB Fm.right at this;simp only[bAt,dTe] at this;exact this.1.1.2
end Go.Proofs.Tryz
namespace Go.Proofs.Tryz
open Go Go.Iv
set_option maxRecDepth 4000
variable (gl:Nat->Option IV)
def u8I (l:List Nat):List IV:=l.map λ(n:Nat)=>.raw (.int .u8 (n:Int))
theorem yX5 (a b:Operand):yJm 2 [(0,a),(1,b)]=true:=rfl
theorem wQe (ca m:Nat)(tw:Tag)(xw:List IV)(op:Nat)(r:Bool)(st:ISt) :
  ICall prog gl 109 [spI ca tw xw m,.raw (.int .u8 (op:Int)),.raw (.bool r)] st (λx st'=>(∃t,x=.sl t (u8I (yJg (calJ ca) op r))/\okEs t 1)/\st'=st):=by
 have d:∀c:Nat,decide ((op:Int)=(c:Int))=decide (op=c):=λc=>decide_eq_decide.2 (by omega);have d3:decide ((op:Int)=3)=decide (op=3):=d 3;have d4:decide ((op:Int)=4)=decide (op=4):=d 4;have d5:decide ((op:Int)=5)=decide (op=5):=d 5;have d6:decide ((op:Int)=6)=decide (op=6):=d 6;have d7:decide ((op:Int)=7)=decide (op=7):=d 7;have dc:decide ((ca:Int)=2)=calJ ca:=decide_eq_decide.2 (by omega);unfold yJg;refine iI func109 ?_;by_cases h3:op=3
 ·rw[if_pos h3];cases r
  ·simp only[go_sem,zE,zB,zA,zM,zS,zL,reduceCtorEq,d3,dEt h3,fits,yQ1,yX5];exact yQ0 ⟨⟨_,rfl,.inr rfl⟩,rfl⟩
  ·simp only[go_sem,zE,zB,zA,zM,zS,zL,reduceCtorEq,d3,dEt h3,fits,yQ1,yX5];exact yQ0 ⟨⟨_,rfl,.inr rfl⟩,rfl⟩
 ·by_cases h4:op=4
  ·rw[if_neg h3,if_pos h4];cases r
   ·simp only[go_sem,zE,zB,zA,zM,zS,zL,reduceCtorEq,d3,d4,dEf h3,dEt h4,fits,yQ1,yX5];exact yQ0 ⟨⟨_,rfl,.inr rfl⟩,rfl⟩
   ·simp only[go_sem,zE,zB,zA,zM,zS,zL,reduceCtorEq,d3,d4,dEf h3,dEt h4,fits,yQ1,yX5];exact yQ0 ⟨⟨_,rfl,.inr rfl⟩,rfl⟩
  ·by_cases h5:op=5
   ·rw[if_neg h3,if_neg h4,if_pos h5];cases r
    ·simp only[go_sem,zE,zB,zA,zM,zS,zL,reduceCtorEq,d3,d4,d5,dEf h3,dEf h4,dEt h5,fits,yQ1,yX5];exact yQ0 ⟨⟨_,rfl,.inr rfl⟩,rfl⟩
    ·cases hj:calJ ca
     ·simp only[go_sem,zE,zB,zA,zM,zS,zL,reduceCtorEq,d3,d4,d5,dEf h3,dEf h4,dEt h5,fits,yQ1,yX5,dc,hj];exact yQ0 ⟨⟨_,rfl,.inr rfl⟩,rfl⟩
     ·simp only[go_sem,zE,zB,zA,zM,zS,zL,reduceCtorEq,d3,d4,d5,dEf h3,dEf h4,dEt h5,fits,yQ1,yX5,dc,hj];exact yQ0 ⟨⟨_,rfl,.inr rfl⟩,rfl⟩
   ·by_cases h6:op=6
    ·rw[if_neg h3,if_neg h4,if_neg h5,if_pos h6];cases r
     ·simp only[go_sem,zE,zB,zA,zM,zS,zL,reduceCtorEq,d3,d4,d5,d6,dEf h3,dEf h4,dEf h5,dEt h6,fits,yQ1,yX5];exact yQ0 ⟨⟨_,rfl,.inr rfl⟩,rfl⟩
     ·simp only[go_sem,zE,zB,zA,zM,zS,zL,reduceCtorEq,d3,d4,d5,d6,dEf h3,dEf h4,dEf h5,dEt h6,fits,yQ1,yX5];exact yQ0 ⟨⟨_,rfl,.inr rfl⟩,rfl⟩
    ·by_cases h7:op=7
     ·rw[if_neg h3,if_neg h4,if_neg h5,if_neg h6,if_pos h7];cases r
      ·simp only[go_sem,zE,zB,zA,zM,zS,zL,reduceCtorEq,d3,d4,d5,d6,d7,dEf h3,dEf h4,dEf h5,dEf h6,dEt h7,fits,yQ1,yX5];exact yQ0 ⟨⟨_,rfl,.inr rfl⟩,rfl⟩
      ·simp only[go_sem,zE,zB,zA,zM,zS,zL,reduceCtorEq,d3,d4,d5,d6,d7,dEf h3,dEf h4,dEf h5,dEf h6,dEt h7,fits,yQ1,yX5];exact yQ0 ⟨⟨_,rfl,.inr rfl⟩,rfl⟩
     ·rw[if_neg h3,if_neg h4,if_neg h5,if_neg h6,if_neg h7];simp only[go_sem,zE,zB,zA,zM,zS,zL,reduceCtorEq,d3,d4,d5,d6,d7,dEf h3,dEf h4,dEf h5,dEf h6,dEf h7,fits];exact yQ0 ⟨⟨_,rfl,.inl rfl⟩,rfl⟩
@[go_sem] theorem wU5:mapI prog 90=some (.pl,.sl ⟨true,.nil,0⟩ []):=by kernel_rfl
def AllR {α:Type}(R:α->IV->Prop)(l:List α)(xs:List IV):Prop:=xs.length=l.length/\∀(i:Nat) (a:α),l[i]?=some a->∃x,xs[i]?=some x/\R a x
theorem AllR.nil {α:Type}{R:α->IV->Prop}:AllR R [] []:=⟨rfl,λi a h=>by simp at h⟩
theorem AllR.snoc {α:Type}{R:α->IV->Prop}{l:List α}{xs:List IV}{a:α}{x:IV}(h:AllR R l xs)(hx:R a x):AllR R (l++[a]) (xs++[x]):=by
 refine⟨by simp[h.1],λi b hb=>?_⟩;rcases Nat.lt_or_ge i l.length with hi|hi
 ·rw[List.getElem?_append_left hi] at hb;rw[List.getElem?_append_left (by rw[h.1];exact hi)];exact h.2 i b hb
 ·rw[List.getElem?_append_right hi] at hb;rw[List.getElem?_append_right (by rw[h.1];exact hi),h.1];cases hk:i-l.length with
  | zero=>rw[hk] at hb;cases hb;exact⟨x,rfl,hx⟩
  | succ n=>rw[hk] at hb;simp at hb
def IsEx (e:Ex)(x:IV):Prop:=∃t1 t2,x=.agg [.sl t1 (yQi e.1.1),.sl t2 (yQi e.1.2),.raw (.int .i64 (e.2.1:Int)),.raw (.int .i64 (e.2.2:Int))]/\okEs t1 1/\okEs t2 1
abbrev Tn:=Nat×List Ex
def IsTn (t:Tn)(x:IV):Prop:=∃tt ys,x=.agg [.raw (.int .u8 (t.1:Int)),.sl tt ys]/\okEs tt 4/\AllR IsEx t.2 ys
def wXd (l:List Tn)(x:IV):Prop:=∃t ys,x=.sl t ys/\okEs t 2/\AllR IsTn l ys
noncomputable def yZo (W:List Fm)(j:Bool)(f:Fm)(r:Bool):List Tn:=(addF j f r).map λt=>(t.1,t.2.map (exW W))
def plV (i:Nat)(r:Bool):Value:=.agg #[.int .i64 (i:Int),.bool r]
def CacheOk (ca:Nat)(W:List Fm)(es:List (Value×IV)):Prop:=∀p∈es,∃i r f,p.1=plV i r/\W[i]?=some f/\wXd (yZo W (calJ ca) f r) p.2
theorem xJe {i:Nat}{r:Bool}{x:IV}:∀ {es:List (Value×IV)},yXr (plV i r) es=some x->(∀p∈es,∃(i:Nat) (r:Bool),p.1=plV i r)->(plV i r,x)∈es
 | [],h,_=>by cases h
 | (k,v)::es,h,hes=>by
  obtain⟨i',r',hk⟩:=hes _ (.head _);simp only at hk;subst hk;simp only[yXr] at h;have hq:yKa (plV i r) (plV i' r')=(decide ((i:Int)=i')&&decide (r=r')):=rfl;rw[hq] at h;by_cases hc:(i:Int)=i'/\r=r'
  ·obtain⟨h1,h2⟩:=hc;obtain rfl:i=i':=by omega
   subst h2;simp at h;subst h;exact .head _
  ·rw[if_neg (by simpa using hc)] at h;exact .tail _ (xJe h λp hp=>hes p (.tail _ hp))
theorem xZi {k:Value}{v:IV}:∀ {es:List (Value×IV)} {p:Value×IV},p∈updI k v es->p=(k,v)\/p∈es
 | [],p,h=>.inl (List.mem_singleton.1 h)
 | (x,u)::es,p,h=>by
  simp only[updI] at h;split at h
  ·rcases List.mem_cons.1 h with h|h
   ·exact .inl h
   ·exact .inr (.tail _ h)
  ·rcases List.mem_cons.1 h with h|h
   ·exact .inr (by rw[h];exact .head _)
   ·exact (xZi h).imp id (.tail _)
theorem CacheOk.upd {ca:Nat}{W:List Fm}{es:List (Value×IV)}(h:CacheOk ca W es){i:Nat}{r:Bool}{f:Fm}{x:IV}(hf:W[i]?=some f)(hx:wXd (yZo W (calJ ca) f r) x):CacheOk ca W (updI (plV i r) x es):=λp hp=>by
 rcases xZi hp with rfl|hp
 ·exact⟨i,r,f,rfl,hf,hx⟩
 ·exact h p hp
theorem xJt {st st':ISt}{m:Nat}{o:Option IObj}(h:subSt st st'):subSt (st.put m o) (st'.put m o):=λc x hc=>by
 rw[ISt.put_apply] at hc ⊢;split
 ·rename_i hcm;rw[if_pos hcm] at hc;exact hc
 ·rename_i hcm;rw[if_neg hcm] at hc;exact h c x hc
theorem xJp {j r:Bool}{f:Fm}{t:Nat×List Sn}(h:t∈addF j f r):∀p∈t.2,p.1.length<=2/\p.2.length<=2:=by
 unfold addF at h;split at h<;>(try split at h)<;>simp at h<;>first|(subst h;simp)|(rcases h with rfl|rfl<;>simp)
theorem zWl {j r:Bool}{f:Fm}{t:Nat×List Sn}(h:t∈addF j f r):t.2.length<=2:=by
 unfold addF at h;split at h<;>(try split at h)<;>simp at h<;>first|(subst h;simp)|(rcases h with rfl|rfl<;>simp)
theorem wUm {f:Fm}{n:Nat}{l:List IV}(h:IsFm f (.agg (.raw (.int .u8 (n:Int))::l))):n=f.op:=by
 obtain⟨o,nn,us,sub⟩:=f;obtain⟨t,xs,t',ys,he,_⟩:=h.mk;simp only[IV.agg.injEq,List.cons.injEq,IV.raw.injEq,Value.int.injEq,true_and] at he;exact Int.ofNat.inj he.1
theorem wG0 (G:Gl gl)(T:Gt gl)(ca m:Nat)(W:List Fm)(hS:SpOk ca W)(tw:Tag)(xw:List IV)(htw:okEs tw 4)(hxw:IsFms W xw)(i:Nat)(r:Bool)(f:Fm)(hf:W[i]?=some f)(es:List (Value×IV))(hes:CacheOk ca W es)(st:ISt)(hm:st m=some (.map .pl es)) :
  ICall prog gl 73 [spI ca tw xw m,.agg [.raw (.int .i64 (i:Int)),.raw (.bool r)]] st (λx st'=>wXd (yZo W (calJ ca) f r) x/\∃es',CacheOk ca W es'/\st'=st.put m (some (.map .pl es'))):=by
 have hil:i<W.length:=(lGs hf).1;have hWl:=hS.len;have hfW:=lMg hf;have hfB:=hS.fm f hfW;obtain⟨y,hky,hy⟩:=hxw.get hf;have hki:yQv .pl (plV i r)=true:=by
  show (decide (-9223372036854775808<=(i:Int))&&decide ((i:Int)<=9223372036854775807))=true;rw[bAt,dTe,dTe];omega
 refine ICall.intro (c:=cf prog gl [] [(14,[0,1,2,3,5,6,7,8,9,10,4,11,12,13,14,15])]) func73 rfl (by show _<=94;simp) (by kernel_rfl) ?_;have hfi:∀o:Option IV,yXr (.agg #[.int .i64 (i:Int),.bool r]) es=o->∀x,o=some x->wXd (yZo W (calJ ca) f r) x:=λo ho x hx=>by
  subst hx;have hmem:=xJe (i:=i) (r:=r) ho λp hp=>by obtain⟨i',r',f',h1,_⟩:=hes p hp;exact⟨i',r',h1⟩
  obtain⟨i',r',f',h1,h2,h3⟩:=hes _ hmem;have h1:plV i r=plV i' r':=h1;simp only[plV,Value.agg.injEq,Array.mk.injEq,List.cons.injEq,Value.int.injEq,true_and,Value.bool.injEq,and_true] at h1;obtain⟨h4,rfl⟩:=h1;obtain rfl:i=i':=by omega
  rw[hf] at h2;cases h2;exact h3
 simp only[go_sem,zE,zB,zA,zM,zS,zL,reduceCtorEq,fits,hm,show yQv .pl (.agg #[.int .i64 (i:Int),.bool r])=true from hki];cases hq:yXr (.agg #[.int .i64 (i:Int),.bool r]) es with
 | some x =>
  obtain⟨t,ys,rfl,ht,hys⟩:=hfi _ hq x rfl;simp only[go_sem,zE,zB,zA,zM,zS,zL,reduceCtorEq,zQl,Option.getD_some,Option.isSome_some,fits];exact yQ0 ⟨⟨t,ys,rfl,ht,hys⟩,es,hes,(yXf hm).symm⟩
 | none =>
  have hLr:=yYb (ca:=ca) (hS.pf hfW) r;have hLl:(yJg (calJ ca) f.op r).length=(addF (calJ ca) f r).length:=by rw[<- hLr,List.length_map]
  have hL2:(addF (calJ ca) f r).length<=1000:=by
   rw[<- hLl];unfold yJg
   repeat' split
   all_goals simp
  have hrules:=λst=>wQe gl ca m tw xw f.op r st;have hadd:=λrule st=>wWk gl G T ca rule f y hy (by have:=hS.size hfW;omega) tmZ (.agg [.raw (.bool false),.raw (.string noN),.sl ⟨true,.nil,0⟩ []]) (by simp only[tmZ,IsTm];exact⟨_,_,rfl,.inl rfl,by simp only[IsTms]⟩) (by decide) noN st;obtain⟨y1,y2,y3,y4,y5,y6,rfl⟩:=hy.agg;obtain rfl:y1=f.op:=wUm hy;simp only[go_sem,zE,zB,zA,zM,zS,zL,reduceCtorEq,zQl,Option.getD_none,Option.isSome_none,fits,hky,yQ4 htw,iNn,lt_i hil];refine (hrules _).mono ?_;rintro _ st ⟨⟨tL,rfl,htL⟩,rfl⟩;simp only[go_sem,zE,zB,zA,zM,zS,zL,reduceCtorEq,fits,u8I,List.length_map,hLl];intro _;refine LoopC.ctr (addF (calJ ca) f r).length (λk fr st' ds=>(∃t ys,fr 5=.iv (.sl t ys)/\AllR IsTn ((yZo W (calJ ca) f r).take k) ys/\own st' t k 2 st/\subSt st st')/\fr 0=.iv (spI ca tw xw m)/\fr 3=.box [.raw (.int .i64 (i:Int)),.raw (.bool r)] /\
   fr 7=.box [.raw (.int .u8 (f.op:Int)),.raw (.string y2),.sl y3 y4,.sl y5 y6]/\fr 39=.iv (.sl tL (u8I (yJg (calJ ca) f.op r)))/\fr 40=.iv (.raw (.int .i64 (addF (calJ ca) f r).length))/\fr 41=.iv (.raw (.int .i64 (k:Int)))/\ds=[]) ?_ ?_ ?_
  ·simp only[go_sem,zE,zB,zA,zM,zS,zL,reduceCtorEq,u8I];exact⟨⟨_,_,rfl,AllR.nil,own.nil _ _ _ _ _,subSt.refl _⟩,rfl⟩
  ·rintro k fr st1 _ hlt ⟨⟨t,ys,f5,hys,hown,hsub⟩,f0,f3,f7,f39,f40,f41,rfl⟩;obtain⟨tt,htt⟩:=yQ3 hlt;have htm:=lMg htt;have hrk:(yJg (calJ ca) f.op r)[k]?=some tt.1:=by rw[<- hLr,List.getElem?_map,htt];rfl
   have hu:(u8I (yJg (calJ ca) f.op r))[k]?=some (.raw (.int .u8 (tt.1:Int))):=by rw[u8I,List.getElem?_map,hrk];rfl
   have hai:=xUm hS.cal hfB htm;have hsubs:=λp hp=>hS.sub hfW htm (p:=p) hp;simp only[go_sem,zE,zB,zA,zM,zS,zL,reduceCtorEq,f0,f3,f7,f39,f40,f41,lt_i hlt,yQ4 htL,iNn,hu,fits];refine (hadd tt.1 _).mono ?_;rintro _ st1 ⟨ta,xa,rfl,hta,hxa,rfl⟩;rw[hai] at hxa ⊢;simp only[go_sem,zE,zB,zA,zM,zS,zL,reduceCtorEq,f5,show decide (((0:Nat):Int)=0)=true from rfl,fits];have hxl:xa.length=tt.2.length:=by rw[hxa.len,List.length_map]
   have hpl:=xJp htm;have hp2:=zWl htm;intro _;rw[hxl];refine LoopC.ctr tt.2.length (λq fr st' ds=>(∃t2 zs,fr 12=.box [.raw (.int .u8 (tt.1:Int)),.sl t2 zs]/\AllR IsEx ((tt.2.map (exW W)).take q) zs/\own st' t2 q 4 st/\own st' t k 2 st/\subSt st st')/\fr 0=.iv (spI ca tw xw m)/\fr 3=.box [.raw (.int .i64 (i:Int)),.raw (.bool r)]/\fr 5=.iv (.sl t ys) /\
    fr 7=.box [.raw (.int .u8 (f.op:Int)),.raw (.string y2),.sl y3 y4,.sl y5 y6]/\fr 39=.iv (.sl tL (u8I (yJg (calJ ca) f.op r)))/\fr 40=.iv (.raw (.int .i64 (addF (calJ ca) f r).length))/\fr 41=.iv (.raw (.int .i64 (k:Int))) /\
    fr 60=.iv (.sl ta xa)/\fr 61=.iv (.raw (.int .i64 tt.2.length))/\fr 62=.iv (.raw (.int .i64 (q:Int)))/\ds=[]) ?_ ?_ ?_
   ·simp only[go_sem,zE,zB,zA,zM,zS,zL,reduceCtorEq];refine⟨⟨_,_,rfl,AllR.nil,own.nil _ _ _ _ _,hown,hsub⟩,f0,f3,f5,f7,f39,f40,f41,rfl⟩
   ·rintro q fr st2 _ hq ⟨⟨t2,zs,f12,hzs,hown2,hown,hsub⟩,f0,f3,f5,f7,f39,f40,f41,f60,f61,f62,rfl⟩;obtain⟨p,hp⟩:=yQ3 hq;have hps:(tt.2.map sqOf)[q]?=some (sqOf p):=by rw[List.getElem?_map,hp];rfl
    obtain⟨z,hzk,hz⟩:=hxa.get hps;have hpl2:=hpl p (lMg hp);have hlc:=λst=>xXh gl T ca m W tw xw htw hxw hS.srt hWl (sqOf p) z hz ⟨by show p.1.length<=_;omega,by show p.2.length<=_;omega⟩ (hsubs p (lMg hp)) st;obtain⟨t3,x3,t4,x4,rfl,e3,i3,e4,i4⟩:=hz;simp only[go_sem,zE,zB,zA,zM,zS,zL,reduceCtorEq,f0,f3,f5,f7,f12,f39,f40,f41,f60,f61,f62,lt_i hq,yQ4 hta,iNn,hzk,fits];refine (hlc _).mono ?_;rintro _ st2 ⟨⟨t5,t6,rfl,e5,e6⟩,rfl⟩;simp only[go_sem,zE,zB,zA,zM,zS,zL,reduceCtorEq,f12,fits,i3.len,i4.len,yQ1];have hzl:zs.length=q:=by rw[hzs.1,List.length_take,List.length_map];omega
    refine yX3 hown2 hzl hsub rfl (by simp[fits,IV.one]) (by simp only;omega) (by omega) λt2' st3 hown3 hsub3 hkeep=>?_;have hown':own st3 t k 2 st:=hown.mono λg hg _=>hkeep g _ hg λn hn=>by cases hn
    simp only[go_sem,zE,zB,zA,zM,zS,zL,reduceCtorEq,f0,f3,f5,f7,f12,f39,f40,f41,f60,f61,f62,yQf hq (show tt.2.length<=281474976710656 by omega)];refine⟨t2',_,rfl,?_,hown3,hown',hsub3⟩;rw[yQ7 (show (tt.2.map (exW W))[q]?=some (exW W p) by rw[List.getElem?_map,hp];rfl)];exact hzs.snoc ⟨t5,t6,rfl,e5,e6⟩
   ·rintro fr st2 _ ⟨⟨t2,zs,f12,hzs,hown2,hown,hsub⟩,f0,f3,f5,f7,f39,f40,f41,f60,f61,f62,rfl⟩;have hyl:ys.length=k:=by
     rw[hys.1,List.length_take];unfold yZo;rw[List.length_map];omega
    simp only[go_sem,zE,zB,zA,zM,zS,zL,reduceCtorEq,f0,f3,f5,f7,f12,f39,f40,f41,f60,f61,f62,yQo (nLi _),fits,yQ1];refine yX3 hown hyl hsub rfl (by simp[fits,IV.one]) (by simp only;omega) (by omega) λt' st3 hown3 hsub3 hkeep=>?_;simp only[go_sem,zE,zB,zA,zM,zS,zL,reduceCtorEq,f0,f3,f5,f7,f39,f40,f41,yQf hlt (show (addF (calJ ca) f r).length<=281474976710656 by omega)];refine⟨t',_,rfl,?_,hown3,hsub3⟩;unfold yZo;rw[yQ7 (show ((addF (calJ ca) f r).map λt=>(t.1,t.2.map (exW W)))[k]?=some (tt.1,tt.2.map (exW W)) by rw[List.getElem?_map,htt];rfl)];refine hys.snoc ⟨t2,zs,rfl,hown2.es,?_⟩;rw[show tt.2.length=(tt.2.map (exW W)).length from (List.length_map ..).symm,lTl] at hzs;exact hzs
  ·rintro fr st1 _ ⟨⟨t,ys,f5,hys,hown,hsub⟩,f0,f3,f7,f39,f40,f41,rfl⟩;have hm1:=hsub m _ hm;rw[show (addF (calJ ca) f r).length=(yZo W (calJ ca) f r).length from (List.length_map ..).symm,lTl] at hys;simp only[go_sem,zE,zB,zA,zM,zS,zL,reduceCtorEq,f0,f3,f5,f7,f39,f40,f41,yQo (nLi _),hm1,show yQv .pl (.agg #[.int .i64 (i:Int),.bool r])=true from hki,fits];exact yQt (xJt hsub) ⟨⟨t,ys,rfl,hown.es,hys⟩,_,hes.upd hf ⟨t,ys,rfl,hown.es,hys⟩,rfl⟩
end Go.Proofs.Tryz
namespace Go.Iv
open Go
theorem wZb {st:ISt}{b:Nat}{cs:List IV}(h:st b=some (.box cs)):LendOk st (ISt.put (λ_=>none) b (some (.box cs))) (st.put b none):=by
 refine⟨λc o hc=>?_,λc o hc=>?_,λc cs' hc=>?_⟩
 ·rw[ISt.put_apply] at hc;split at hc
  ·rename_i hb;rw[hb,h];exact hc
  ·cases hc
 ·rw[ISt.put_apply] at hc;split at hc
  ·cases hc
  ·exact hc
 ·rw[ISt.put_apply] at hc ⊢;split at hc
  ·rename_i hb;rw[if_pos hb]
  ·cases hc
end Go.Iv
namespace Go.Iv
open Go
def vcF (c:Cf)(t:Nat):Nat->Code->Kc->Fr->ISt->List Dfd->Prop
 | 0,code,Q,fr,st,ds=>∃b y,fr t=.iv (.raw (.pointer (some ⟨b,0,none⟩)))/\st b=some (.box y.cells)/\vcC c code Q (fr.put t (.iv (.cptr (age y)))) (st.put b none) ds
 | n+1,.seq a b,Q,fr,st,ds=>vcC c a (seqK (vcF c t n b Q) Q) fr st ds
 | _,_,_,_,_,_=>False
@[go_sem ↓] theorem vVs {c:Cf}{t n:Nat}{a b:Code}{Q:Kc}{fr:Fr}{st:ISt}{ds:List Dfd}:vcF c t (n+1) (.seq a b) Q fr st ds=vcC c a (seqK (vcF c t n b Q) Q) fr st ds:=(rfl)
theorem Inv.frzAt {C:Cx}{X0 X:WS}{N:Nat}{fr:Fr}{ds:List Dfd}{a:Act}(h:Inv C X0 N X fr ds a){t b:Nat}{y:IV}(ht:t<N)(hf:fr t=.iv (.raw (.pointer (some ⟨b,0,none⟩))))(hb:X.st b=some (.box y.cells)) :
  ∃X',X'.w=X.w/\X'.st=X.st.put b none/\Inv C X0 N X' (fr.put t (.iv (.cptr (age y)))) ds a:=by
 have k:=wZb hb;refine⟨X.lendS (ISt.put (λ_=>none) b (some (.box y.cells))) (X.st.put b none),rfl,rfl,?_⟩;have h1:=h.ext' (h.good.lendS_ext k) (h.good.lendS k);have hv:=h.fr.slot t;rw[hf] at hv;have ho:OI (ISt.put (λ_=>none) b (some (.box y.cells))) (.raw (.pointer (some ⟨b,0,none⟩))) (.cptr y):=.ptr b y y.cells (ISt.put_same ..) rfl λi r c hr hc=>by
  rw[hr] at hc;cases hc;exact .refl _
 have h2:=h1.put ht (ho.v h.good k hv);have hset:a.tmps.setIfInBounds t (tm a.tmps t)=a.tmps:=by
  refine Array.ext (by simp) λi h1 h2=>?_;rw[Array.getElem_setIfInBounds];split
  ·rename_i he;subst he;unfold tm;rw[Array.getD_eq_getD_getElem?,Array.getElem?_eq_getElem h2];rfl
  ·rfl
 rw[hset] at h2;simpa only[age] using h2
theorem zY0 {N:Nat}{c:Cf}{t:Nat}(ht:t<N){B:Nat}{X0:WS}{ro:Option Nat}{m:Nat}(hro:c.rd=false->ro=none){Q:Kc}:∀(n:Nat) (code:Code) (X:WS) (fr:Fr) (ds:List Dfd) (a:Act),codeOk c N code=true →
  Inv (c.cx B) X0 N X fr ds a->vcF c t n code Q fr X.st ds->code.wpIn (yZ7 ro) m c.P (PQ (c.cx B) X0 N Q) a X.w
 | 0,code,X,fr,ds,a,hd,hI,h=>by
  obtain⟨b,y,h1,h2,h3⟩:=h;obtain⟨X',e1,e2,hI'⟩:=hI.frzAt ht h1 h2;rw[<- e2] at h3;have:=yGc code c B X0 ro m hro Q X' _ ds a hd hI' h3;rw[e1] at this;exact this
 | n+1,.seq x y,X,fr,ds,a,hd,hI,h=>by
  simp only[codeOk,bAt] at hd;refine wpIn_seq (wpIn_mono (yGc x c B X0 ro m hro _ X fr ds a hd.1 hI h) ?_);rintro e a' w' ⟨X',fr',ds',rfl,hI',hq⟩;cases e with
  | normal=>exact zY0 ht hro n y X' fr' ds' a' hd.2 hI' hq
  | _=>exact⟨X',fr',ds',rfl,hI',hq⟩
 | n+1,.skip,_,_,_,_,_,_,h=>h.elim
 | n+1,.region ..,_,_,_,_,_,_,h=>h.elim
 | n+1,.cond ..,_,_,_,_,_,_,h=>h.elim
 | n+1,.block ..,_,_,_,_,_,_,h=>h.elim
 | n+1,.loop ..,_,_,_,_,_,_,h=>h.elim
 | n+1,.exit ..,_,_,_,_,_,_,h=>h.elim
 | n+1,.label ..,_,_,_,_,_,_,h=>h.elim
 | n+1,.goto ..,_,_,_,_,_,_,h=>h.elim
 | n+1,.ret,_,_,_,_,_,_,h=>h.elim
 | n+1,.scope ..,_,_,_,_,_,_,h=>h.elim
 | n+1,.rangeFunc ..,_,_,_,_,_,_,h=>h.elim
 | n+1,.refuse ..,_,_,_,_,_,_,h=>h.elim
theorem ICall.introF {c:Cf}{t n:Nat}{f:FuncId}{fn:Func}{code:Code}{args:List IV}{st:ISt}{K:IV->ISt->Prop}(hf:c.P.funcs[f]?=some fn)(hb:fn.body=some code)
  (hN:args.length<=fn.ntmps) (ht:t<fn.ntmps) (hd:codeOk c fn.ntmps code=true) (h:vcF c t n code (bodyK c.P c.gl fn.results.toList K) (frOf args) st []):ICall c.P c.gl f args st K:=by
 intro B X rs hg hst hv;subst hst;refine (callsIn_wide (n:=0)).1 (callsIn_of_wp_marks hf hb trivial ?_);have hs:=zY0 (N:=fn.ntmps) ht (c:=c) (B:=B) (X0:=X) (ro:=none) (m:=0) (λ_=>rfl) n code X (frOf args) [] _ hd (Inv.start hg hv hN) h;refine wpIn_mono hs ?_;rintro e a' w' ⟨X',fr',ds',rfl,hI,hq⟩;cases e with
 | normal=>exact zK7 ds' X' a' hI hq
 | ret=>exact zK7 ds' X' a' hI hq
 | _=>exact hq.elim
end Go.Iv
namespace Go.Proofs.Tryz
open Go Go.Iv
set_option maxRecDepth 4000
variable (gl:Nat->Option IV)
theorem xUi {c:Cf}{ops:Array Oper}{Q:Fr->ISt->List Dfd->Prop}{listed:Array Bool}{ad:Ad}{fr:Fr}{st:ISt}{ds:List Dfd}(h:Q fr st ds):anyV c ops Q 0 listed ad fr st ds:=λ_=>h
theorem zXu {c:Cf}{ops:Array Oper}{Q:Fr->ISt->List Dfd->Prop}{n:Nat}{listed:Array Bool}{ad:Ad}{fr:Fr}{st:ISt}{ds:List Dfd}(i:Nat)(h:Region.ready .any ops listed=[i])
  (hs:yYd c ops.toList (opAt ops i) (anyV c ops Q n (listed.setIfInBounds i true)) ad fr st ds):anyV c ops Q (n+1) listed ad fr st ds:=by
 refine⟨λh0=>(by rw[h] at h0;cases h0),λj hj=>?_⟩;rw[h,List.mem_singleton] at hj;subst hj;exact hs
theorem wW6 {c:Cf}{ops:Array Oper}{Q:Fr->ISt->List Dfd->Prop}{n:Nat}{listed:Array Bool}{ad:Ad}{fr:Fr}{st:ISt}{ds:List Dfd}(i k:Nat)(h:Region.ready .any ops listed=[i,k])
  (hs:yYd c ops.toList (opAt ops i) (anyV c ops Q n (listed.setIfInBounds i true)) ad fr st ds) (hs':yYd c ops.toList (opAt ops k) (anyV c ops Q n (listed.setIfInBounds k true)) ad fr st ds):anyV c ops Q (n+1) listed ad fr st ds:=by
 refine⟨λh0=>(by rw[h] at h0;cases h0),λj hj=>?_⟩;rw[h,List.mem_cons,List.mem_singleton] at hj;rcases hj with rfl|rfl
 ·exact hs
 ·exact hs'
theorem yJ9 (c:Cf)(ops:List Oper)(dst:Option Nat)(op:Op)(ty:TypeId)(pos:String)(aft:Array Edge)(K:Kt)(ad:Ad)(fr:Fr)(st:ISt)(ds:List Dfd):yYd c ops ⟨dst,op,ty,pos,aft,none⟩ K ad fr st ds=vcOp c dst op K ad fr st ds:=rfl
theorem zW5 (fr:Fr)(d:Nat)(x y:SV):(fr.put d x).put d y=fr.put d y:=by
 funext s;simp only[Fr.put_apply];split<;>rfl
theorem xU6 {esc:List Nat}{ord:List (Nat×List Nat)}{frz:List Nat}{d d':Nat}{p:String}{Q:Fr->ISt->List Dfd->Prop}{fr:Fr}{st:ISt}(hd:d ∉ esc)(hne:d≠d')(hd':d' ∉ esc)
  (h:∀b:Bool,Q ((fr.put d (.box [.raw (.bool b)])).put d' (.iv (.raw (.bool b)))) st []) :
  zXf (cf prog gl esc ord frz) #[⟨some d,.alloc 4,0,p,#[],none⟩,⟨none,.store 4 (.tmp d) (.const (.bool true)),0,p,#[⟨0,.data⟩,⟨2,.gcOnly .appendInPlace⟩],none⟩,
   ⟨none,.store 4 (.tmp d) (.const (.bool false)),0,p,#[⟨0,.data⟩,⟨1,.textOnly .appendInPlace⟩],none⟩,⟨some d',.load 4 (.tmp d),4,p,#[⟨0,.data⟩,⟨0,.phase⟩,⟨1,.phase⟩,⟨2,.phase⟩],none⟩] (some []) Q fr st []:=by
 rw[xU0];refine zXu 0 (by kernel_rfl) ?_;simp only[go_sem,zE,zB,zA,zM,zS,zL,reduceCtorEq,hd,yJ9];refine wW6 1 2 (by kernel_rfl) ?_ ?_
 ·simp only[go_sem,zE,zB,zA,zM,zS,zL,reduceCtorEq,yJ9];refine zXu 2 (by kernel_rfl) ?_;simp only[go_sem,zE,zB,zA,zM,zS,zL,reduceCtorEq,yJ9];refine zXu 3 (by kernel_rfl) ?_;simp only[go_sem,zE,zB,zA,zM,zS,zL,reduceCtorEq,yJ9,hd',hne];refine xUi ?_;rw[zW5,zW5];exact h false
 ·simp only[go_sem,zE,zB,zA,zM,zS,zL,reduceCtorEq,yJ9];refine zXu 1 (by kernel_rfl) ?_;simp only[go_sem,zE,zB,zA,zM,zS,zL,reduceCtorEq,yJ9];refine zXu 3 (by kernel_rfl) ?_;simp only[go_sem,zE,zB,zA,zM,zS,zL,reduceCtorEq,yJ9,hd',hne];refine xUi ?_;rw[zW5,zW5];exact h true
def yXx:Fm->List Fm
 | .mk 7 n us [a,b]=>[.mk 7 n us [a,b],imF a b,imF b a]
 | f=>[f]
mutual
def cloF:Fm->List Fm
 | .mk o n us sub=>yXx (.mk o n us sub)++yZe sub
def yZe:List Fm->List Fm
 | []=>[]
 | a::l=>cloF a++yZe l
end
def yGb (ca m:Nat)(x:IV):IObj:=.box [.raw (.int .u8 (ca:Int)),x,.raw (.map (some m))]
def Fo (ca m b12:Nat)(B0:ISt)(l:List Fm)(st:ISt):Prop:=(l=[]/\st=B0.put b12 (some (yGb ca m (.sl ⟨true,.nil,0⟩ [])))) \/
 ∃g cap cs zs,l≠[]/\B0 g=none/\g≠b12/\l.length<=cap/\cap*4<=cs.length/\cs.take (l.length*4)=zs.flatMap IV.cells/\IsFms l zs/\st=(B0.put b12 (some (yGb ca m (.raw (.slice (some ⟨g,0,none⟩) l.length cap))))).put g (some (.box cs))
abbrev ptr (b:Nat):IV:=.raw (.pointer (some ⟨b,0,none⟩))
abbrev colFn (b12 b6:Nat):IV:=.fn (.func 101) [] [.cptr (ptr b12),ptr b6]
def ColC (f:Fm):Prop:=∀(ca m b6 b12:Nat) (x:IV) (_:IsFm f x) (B0 st:ISt) (l:List Fm),B0 b6=some (.box [colFn b12 b6])->b6≠b12->(l++cloF f).length<=1000000->Fo ca m b12 B0 l st →
 ICall prog gl 101 [x,.cptr (ptr b12),ptr b6] st (λ_ st'=>Fo ca m b12 B0 (l++cloF f) st')
theorem xVo:allI zXi [Value.int IntKind.u8 0,Value.string noN,Value.slice none 0 0,Value.slice none 0 0]=some [.raw (.int .u8 0),.raw (.string noN),.sl ⟨true,.nil,0⟩ [],.sl ⟨true,.nil,0⟩ []]:=rfl
theorem xZu (f:Fm):1<=(yXx f).length:=by
 unfold yXx;split<;>simp
theorem xZt {o:Nat}{n:ByteArray}{us:List Tm}{sub:List Fm}(h:¬ (o=7/\sub.length=2)):yXx (.mk o n us sub)=[.mk o n us sub]:=by
 unfold yXx;split
 ·rename_i he;cases he;exact absurd ⟨rfl,rfl⟩ h
 ·rfl
theorem zV1 {B0:ISt}{b g:Nat}{a z c:Option IObj}(h:g≠b):((B0.put b a).put g c).put b z=(B0.put b z).put g c:=by
 funext d;simp only[ISt.put_apply];by_cases h1:d=b
 ·subst h1;rw[if_pos rfl,if_neg λe=>h e.symm,if_pos rfl]
 ·rw[if_neg h1,if_neg h1,if_neg h1]
theorem yU7 {B0:ISt}{b g g':Nat}{a z c c':Option IObj}(hg:B0 g=none)(h1:g≠b)(h2:g'≠b):((((B0.put b a).put g c).put g none).put g' c').put b z=(B0.put b z).put g' c':=by
 funext d;simp only[ISt.put_apply];by_cases e1:d=b
 ·subst e1;rw[if_pos rfl,if_neg λe=>h2 e.symm,if_pos rfl]
 ·rw[if_neg e1,if_neg e1,if_neg e1];by_cases e2:d=g
  ·rw[if_pos e2,e2,hg]
  ·rw[if_neg e2,if_neg e2]
theorem zZ3 {l:List Fm}{zs:List IV}(h:IsFms l zs):(zs.flatMap IV.cells).length=l.length*4:=by
 rw[<- h.len];refine yQm zs λz hz=>?_;obtain⟨a,ha,_⟩:=yUs h z hz;cases a;obtain⟨_,_,_,_,rfl,_⟩:=ha.mk;rfl
theorem zXo {cs' Z z new:List IV}{n:Nat}(hZ:Z.length=n*4)(hn:new.length=4)(hl:(n+1)*4<=cs'.length)(h:cs'.take ((n+1)*4)=Z++z):(cs'.take (n*4)++new++cs'.drop (n*4+4)).take ((n+1)*4)=Z++new:=by
 have h1:cs'.take (n*4)=Z:=by
  have:=congrArg (List.take (n*4)) h;rw[List.take_take,Nat.min_eq_left (by omega),List.take_left' hZ] at this;exact this
 rw[h1,List.take_left'];rw[lLa,hZ,hn];omega
theorem yUh {B0:ISt}{b g g':Nat}{a':IObj}{c:Option IObj}(hg:B0 g=none)(hn:g≠b)(hg':g'=g\/((B0.put b (some a')).put g c) g'=none):g'≠b/\B0 g'=none:=by
 rcases hg' with rfl|h
 ·exact⟨hn,hg⟩
 ·by_cases h1:g'=g
  ·subst h1;exact⟨hn,hg⟩
  ·rw[yQ6 h1] at h;by_cases h2:g'=b
   ·subst h2;rw[ISt.put_same] at h;cases h
   ·exact⟨h2,by rwa [yQ6 h2] at h⟩
theorem Fo.first {ca m b12 g cap:Nat}{B0:ISt}{cs:List IV}{f:Fm}{x:IV}(hx:IsFm f x)(hg:B0 g=none)(hn:g≠b12)(hc:1<=cap)(hr:cap*4<=cs.length)(ht:cs.take 4=x.cells) :
  Fo ca m b12 B0 [f] ((B0.put b12 (some (yGb ca m (.raw (.slice (some ⟨g,0,none⟩) 1 cap))))).put g (some (.box cs))) :=
 .inr ⟨g,cap,cs,[x],by simp,hg,hn,hc,hr,by simpa using ht,.one hx,rfl⟩
theorem Fo.snoc {ca m b12 g cap:Nat}{B0:ISt}{cs:List IV}{l:List Fm}{zs:List IV}(hz:IsFms l zs){f:Fm}{x:IV}(hx:IsFm f x)(hg:B0 g=none)(hn:g≠b12)(hc:l.length+1<=cap)(hr:cap*4<=cs.length)
  (ht:cs.take ((l.length+1)*4)=zs.flatMap IV.cells++x.cells) :
  Fo ca m b12 B0 (l++[f]) ((B0.put b12 (some (yGb ca m (.raw (.slice (some ⟨g,0,none⟩) (l.length+1) cap))))).put g (some (.box cs))) :=
 .inr ⟨g,cap,cs,zs++[x],by simp,hg,hn,by simpa using hc,hr,by simpa using ht,hz.append (.one hx),by simp⟩
theorem wK5 {c:Cf}{A:Code}{K:Fr->ISt->List Dfd->Prop}{Q:Kc}{fr:Fr}{st:ISt}{ds:List Dfd}(J:Fr->ISt->List Dfd->Prop)(h:vcC c A (seqK J Q) fr st ds)(hJ:∀fr st ds,J fr st ds->K fr st ds):vcC c A (seqK K Q) fr st ds :=
 yG6 A (λe fr st ds=>by cases e<;>first|exact hJ _ _ _|exact id) h
theorem zWg {b:Bool}{c:Cf}{A B:Code}{K:Fr->ISt->List Dfd->Prop}{Q:Kc}{fr:Fr}{st:ISt}{ds:List Dfd}(J:Fr->ISt->List Dfd->Prop)(hJ:∀fr st ds,J fr st ds->K fr st ds)
  (h1:b=true->vcC c A (seqK J Q) fr st ds) (h2:b=false->vcC c B (seqK J Q) fr st ds):yWh b (vcC c A (seqK K Q) fr st ds) (vcC c B (seqK K Q) fr st ds) .mk .mk:=by
 have hm:∀e fr st ds,seqK J Q e fr st ds->seqK K Q e fr st ds:=λe fr st ds=>by
  cases e<;>first|exact hJ _ _ _|exact id
 exact yZl (λh=>yG6 A hm (h1 h)) (λh=>yG6 B hm (h2 h))
theorem yY7 {sub:List Fm}{k:Nat}{g:Fm}(h:sub[k]?=some g):yZe (sub.take (k+1))=yZe (sub.take k)++cloF g:=by
 have app:∀a b:List Fm,yZe (a++b)=yZe a++yZe b:=λa b=>by
  induction a with
  | nil=>rfl
  | cons c a ih=>simp only[List.cons_append,yZe,ih,List.append_assoc]
 rw[yQ7 h,app];simp[yZe]
theorem wVv {l:List Fm}{o:Nat}{n:ByteArray}{us:List Tm}{sub:List Fm}{k:Nat}{g:Fm}(h:(l++cloF (.mk o n us sub)).length<=1000000)(hg:sub[k]?=some g):(l++yXx (.mk o n us sub)++yZe (sub.take k)++cloF g).length<=1000000:=by
 have mono:∀(a:List Fm) (k:Nat),(yZe (a.take k)).length<=(yZe a).length:=λa=>by
  induction a with
  | nil=>intro k;simp
  | cons c a ih =>
   intro k;cases k with
   | zero=>simp[yZe]
   | succ k=>simp only[List.take_succ_cons,yZe,lLa];have:=ih k;omega
 have h1:=mono sub (k+1);rw[yY7 hg] at h1;simp only[cloF,lLa] at h h1 ⊢;omega
theorem Fo.self {ca m b12 b6:Nat}{B0 st:ISt}{l:List Fm}{o:IObj}(h:Fo ca m b12 B0 l st)(h6:B0 b6=some o)(hn:b6≠b12):st b6=some o:=by
 rcases h with⟨_,rfl⟩|⟨g,cap,cs,zs,_,hg,_,_,_,_,_,rfl⟩
 ·rw[yQ6 hn,h6]
 ·rw[yQ6 (by rintro rfl;rw[hg] at h6;cases h6),yQ6 hn,h6]
theorem wZi {a b:Fm}{x y:IV}(ha:IsFm a x)(hb:IsFm b y):IsFm (imF a b) (.agg [.raw (.int .u8 6),.raw (.string noN),.sl ⟨true,.nil,0⟩ [],.sl ⟨true,.full,4⟩ [x,y]]) :=
 ⟨_,_,_,_,rfl,by decide,.inl rfl,rfl,.inr rfl,⟨x,_,rfl,ha,y,_,rfl,hb,rfl⟩⟩
theorem wZy (o:Nat)(n:ByteArray)(us:List Tm)(sub:List Fm)(IH:∀a∈sub,ColC gl a):ColC gl (.mk o n us sub):=by
 intro ca m b6 b12 x hx B0 st l h6 n6 hlen hF;obtain⟨t1,x1,t2,x2,rfl,ho,e1,i1,e2,i2⟩:=hx.mk;have hlen1:l.length+(yXx (.mk o n us sub)).length<=1000000:=by rw[lLa] at hlen;simp only[cloF,lLa] at hlen;omega
 have hsl:=xZu (.mk o n us sub);refine ICall.intro (c:=cf prog gl [13,17,25,28,53,60,68,74,82,89,97,103] [(1,[]),(7,[]),(11,[])]) func101 rfl (by show _<=117;simp) (by kernel_rfl) ?_;simp only[go_sem,zE,zB,zA,zM,zS,zL,reduceCtorEq,fits];refine xU6 gl (by decide) (by decide) (by decide) λc1=>?_;simp only[go_sem,zE,zB,zA,zM,zS,zL,reduceCtorEq];refine zWg (λfr st ds=>Fo ca m b12 B0 (l++[.mk o n us sub]) st/\ds=[]/\fr 1=.iv (.cptr (ptr b12))/\fr 2=.iv (ptr b6)/\fr 3=.box [.raw (.int .u8 (o:Int)),.raw (.string n),.sl t1 x1,.sl t2 x2]) ?_ (λh=>?_) (λh=>?_)
 ·rintro fr s1 _ ⟨hF1,rfl,f1,f2,f3⟩;rw[wK4];refine wK5 (λfr st ds=>Fo ca m b12 B0 (l++yXx (.mk o n us sub)) st/\ds=[]/\fr 1=.iv (.cptr (ptr b12))/\fr 2=.iv (ptr b6)/\fr 3=.box [.raw (.int .u8 (o:Int)),.raw (.string n),.sl t1 x1,.sl t2 x2]) ?_ ?_
  ·by_cases h7:o=7
   ·subst h7;by_cases h2:x2.length=2
    ·rw[i2.len] at h2;obtain⟨a,b,rfl⟩:∃a b,sub=[a,b]:=by
      match sub,h2 with
      | [a,b],_=>exact⟨a,b,rfl⟩
     obtain⟨xa,_,rfl,ia,xb,_,rfl,ib,rfl⟩:=i2;cases a with
     | mk oa na ua sa =>
     cases b with
     | mk ob nb ub sb =>
     obtain⟨ta1,xa1,ta2,xa2,rfl,ha⟩:=ia.mk;obtain⟨tb1,xb1,tb2,xb2,rfl,hb⟩:=ib.mk;simp only[go_sem,zE,zB,zA,zM,zS,zL,reduceCtorEq,f1,f2,f3,fits,show decide (((7:Nat):Int)=7)=true from rfl];refine yZl (λ_=>?_) λh=>absurd h (by decide);simp only[go_sem,zE,zB,zA,zM,zS,zL,reduceCtorEq,f1,f2,f3,fits,yQ4 e2,show ((0:Int)<=0)=True from eq_true (by decide),show ((0:Int)<=1)=True from eq_true (by decide),show Int.toNat 0=0 from rfl,show Int.toNat 1=1 from rfl,IV.one];rw[show l++yXx (.mk 7 n us [.mk oa na ua sa,.mk ob nb ub sb])=l++[.mk 7 n us [.mk oa na ua sa,.mk ob nb ub sb]]++[imF (.mk oa na ua sa) (.mk ob nb ub sb)]++[imF (.mk ob nb ub sb) (.mk oa na ua sa)] by simp[yXx]];have hL:(l++[Fm.mk 7 n us [.mk oa na ua sa,.mk ob nb ub sb]]).length+2<=1000000:=by simp[yXx] at hlen1 ⊢;omega
     have hne:l++[Fm.mk 7 n us [.mk oa na ua sa,.mk ob nb ub sb]]≠[]:=by simp
     generalize l++[Fm.mk 7 n us [.mk oa na ua sa,.mk ob nb ub sb]]=L at hF1 hL hne ⊢;refine xU6 gl (by decide) (by decide) (by decide) λc2=>?_;simp only[go_sem,zE,zB,zA,zM,zS,zL,reduceCtorEq];refine zWg (λfr st ds=>Fo ca m b12 B0 (L++[imF (.mk oa na ua sa) (.mk ob nb ub sb)]) st/\ds=[]/\fr 1=.iv (.cptr (ptr b12))/\fr 2=.iv (ptr b6) /\
      fr 3=.box [.raw (.int .u8 ((7:Nat):Int)),.raw (.string n),.sl t1 x1,.sl t2 [.agg [.raw (.int .u8 (oa:Int)),.raw (.string na),.sl ta1 xa1,.sl ta2 xa2],.agg [.raw (.int .u8 (ob:Int)),.raw (.string nb),.sl tb1 xb1,.sl tb2 xb2]]] /\
      fr 4=.box [.raw (.int .u8 (oa:Int)),.raw (.string na),.sl ta1 xa1,.sl ta2 xa2]/\fr 5=.box [.raw (.int .u8 (ob:Int)),.raw (.string nb),.sl tb1 xb1,.sl tb2 xb2]) ?_ (λh=>?_) (λh=>?_)
     ·rintro fr s2 _ ⟨hF2,rfl,f1,f2,f3,f4,f5⟩;have hL2:(L++[imF (.mk oa na ua sa) (.mk ob nb ub sb)]).length+1<=1000000:=by rw[lLa];exact hL
      have hne2:L++[imF (.mk oa na ua sa) (.mk ob nb ub sb)]≠[]:=by simp
      generalize L++[imF (.mk oa na ua sa) (.mk ob nb ub sb)]=L2 at hF2 hL2 hne2 ⊢;simp only[go_sem,zE,zB,zA,zM,zS,zL,reduceCtorEq,f1,f2,f3,f4,f5,fits];refine xU6 gl (by decide) (by decide) (by decide) λc3=>?_;obtain⟨g,cap,cs,zs,hl0,hg,hgb,hcap,hroom,hcs,hzs,rfl⟩:=hF2.resolve_left λh=>hne2 h.1;cases c3
      ·simp only[go_sem,zE,zB,zA,zM,zS,zL,reduceCtorEq,f1,f2,f3,f4,f5,fits,yGb,yQ6 hgb.symm,yQ1,yJc];refine yXc _ _ _ (ISt.put_same ..) rfl ⟨by show (L2.length+1)*72<=_;omega,by show L2.length+1<=_;omega⟩ ⟨hcap,hroom⟩ rfl ?_;intro g' cap' cs' hg' k1 k2 k3;obtain⟨gb',hgn⟩:=yUh hg hgb hg';simp only[go_sem,zE,zB,zA,zM,zS,zL,reduceCtorEq,f1,f2,f3,fits,yQ6 gb'.symm,yQ6 gb',yQ6 hgb.symm,IV.one];rw[yU7 hg hgb gb'];exact .snoc hzs (wZi ib ia) hgn gb' k1 k2 (k3.trans (congrArg (·++_) hcs))
      ·simp only[go_sem,zE,zB,zA,zM,zS,zL,reduceCtorEq,f1,f2,f3,f4,f5,fits,yGb,yQ6 hgb.symm,yQ1,yJc,xVo];refine yXc _ _ _ (ISt.put_same ..) rfl ⟨by show (L2.length+1)*72<=_;omega,by show L2.length+1<=_;omega⟩ ⟨hcap,hroom⟩ rfl ?_;intro g' cap' cs' hg' k1 k2 k3;obtain⟨gb',hgn⟩:=yUh hg hgb hg';simp only[go_sem,zE,zB,zA,zM,zS,zL,reduceCtorEq,f1,f2,f3,fits,yQ6 gb'.symm,yQ6 gb',yQ6 hgb.symm,IV.one];have k2':cap'*4<=cs'.length:=k2;have k1':L2.length+1<=cap':=k1;rw[if_pos ⟨iNn _,Nat.lt_succ_self _⟩,if_pos (by omega),yU7 hg hgb gb',yQ8];exact .snoc hzs (wZi ib ia) hgn gb' k1 (by simp only[lLa,List.length_take,List.length_drop,List.length_cons,List.length_nil];omega) (zXo (by rw[zZ3 hzs]) rfl (by omega) (k3.trans (congrArg (·++_) hcs)))
     ·obtain⟨g,cap,cs,zs,hl0,hg,hgb,hcap,hroom,hcs,hzs,rfl⟩:=hF1.resolve_left λh=>hne h.1;simp only[go_sem,zE,zB,zA,zM,zS,zL,reduceCtorEq,f1,f2,f3,fits,yGb,yQ6 hgb.symm,yQ1,yJc,xVo];refine yXc _ _ _ (ISt.put_same ..) rfl ⟨by show (L.length+1)*72<=_;omega,by show L.length+1<=_;omega⟩ ⟨hcap,hroom⟩ rfl ?_;intro g' cap' cs' hg' k1 k2 k3;obtain⟨gb',hgn⟩:=yUh hg hgb hg';simp only[go_sem,zE,zB,zA,zM,zS,zL,reduceCtorEq,f1,f2,f3,fits,yQ6 gb'.symm,yQ6 gb',yQ6 hgb.symm,IV.one];have k2':cap'*4<=cs'.length:=k2;have k1':L.length+1<=cap':=k1;rw[if_pos ⟨iNn _,Nat.lt_succ_self _⟩,if_pos (by omega),yU7 hg hgb gb',yQ8];exact .snoc hzs (wZi ia ib) hgn gb' k1 (by simp only[lLa,List.length_take,List.length_drop,List.length_cons,List.length_nil];omega) (zXo (by rw[zZ3 hzs]) rfl (by omega) (k3.trans (congrArg (·++_) hcs)))
     ·obtain⟨g,cap,cs,zs,hl0,hg,hgb,hcap,hroom,hcs,hzs,rfl⟩:=hF1.resolve_left λh=>hne h.1;simp only[go_sem,zE,zB,zA,zM,zS,zL,reduceCtorEq,f1,f2,f3,fits,yGb,yQ6 hgb.symm,yQ1,yJc];refine yXc _ _ _ (ISt.put_same ..) rfl ⟨by show (L.length+1)*72<=_;omega,by show L.length+1<=_;omega⟩ ⟨hcap,hroom⟩ rfl ?_;intro g' cap' cs' hg' k1 k2 k3;obtain⟨gb',hgn⟩:=yUh hg hgb hg';simp only[go_sem,zE,zB,zA,zM,zS,zL,reduceCtorEq,f1,f2,f3,fits,yQ6 gb'.symm,yQ6 gb',yQ6 hgb.symm,IV.one];rw[yU7 hg hgb gb'];exact .snoc hzs (wZi ia ib) hgn gb' k1 k2 (k3.trans (congrArg (·++_) hcs))
    ·have h2':¬ ((x2.length:Nat):Int)=2:=by omega
     simp only[go_sem,zE,zB,zA,zM,zS,zL,reduceCtorEq,f1,f2,f3,fits,h2',decide_false,show decide (((7:Nat):Int)=7)=true from rfl];intro _;rw[xZt λh=>h2 (by rw[i2.len,h.2])];exact hF1
   ·have h7':¬ (o:Int)=7:=by omega
    simp only[go_sem,zE,zB,zA,zM,zS,zL,reduceCtorEq,f1,f2,f3,fits,h7',decide_false];rw[xZt λh=>h7 h.1];exact hF1
  ·rintro fr s2 _ ⟨hF2,rfl,f1,f2,f3⟩;simp only[go_sem,zE,zB,zA,zM,zS,zL,reduceCtorEq,f1,f2,f3,fits];intro _;have hsl:=i2.len;refine LoopC.ctr x2.length (λk fr st' ds=>Fo ca m b12 B0 (l++yXx (.mk o n us sub)++yZe (sub.take k)) st'/\fr 1=.iv (.cptr (ptr b12))/\fr 2=.iv (ptr b6)/\fr 107=.iv (.sl t2 x2)/\fr 108=.iv (.raw (.int .i64 x2.length))/\fr 109=.iv (.raw (.int .i64 (k:Int)))/\ds=[]) ?_ ?_ ?_
   ·simp only[go_sem,zE,zB,zA,zM,zS,zL,reduceCtorEq];simpa[yZe] using ⟨hF2,f1,f2⟩
   ·rintro k fr st1 _ hlt ⟨hF3,f1,f2,f107,f108,f109,rfl⟩;rw[hsl] at hlt;obtain⟨g,hg⟩:=yQ3 hlt;obtain⟨z,hz,hgz⟩:=i2.get hg;have IHg:=IH g (lMg hg) ca m b6 b12 z hgz B0 st1 _ h6 n6 (wVv hlen hg) hF3;cases g with
    | mk og ng ug sg =>
    obtain⟨tg1,xg1,tg2,xg2,rfl,hgg⟩:=hgz.mk;simp only[go_sem,zE,zB,zA,zM,zS,zL,reduceCtorEq,f1,f2,f107,f108,f109,lt_i (show k<x2.length by omega),yQ4 e2,iNn,hz,fits,IV.one];rw[hF3.self h6 n6];simp only[go_sem,zE,zB,zA,zM,zS,zL,reduceCtorEq];refine IHg.mono ?_;rintro _ st1 hF4;simp only[go_sem,zE,zB,zA,zM,zS,zL,reduceCtorEq,f1,f2,f107,f108,f109,yQf (show k<x2.length by omega) (show x2.length<=281474976710656 by omega)];rw[yY7 hg,<- List.append_assoc];exact hF4
   ·rintro fr st1 _ ⟨hF3,f1,f2,f107,f108,f109,rfl⟩;rw[hsl,lTl] at hF3;simp only[go_sem,zE,zB,zA,zM,zS,zL,reduceCtorEq,f107,f108,f109,yQo (nLi _),fits];refine yQ0 ?_;rw[cloF,<- List.append_assoc];exact hF3
 ·rcases hF with⟨rfl,rfl⟩|⟨g,cap,cs,zs,hl0,hg,hgb,hcap,hroom,hcs,hzs,rfl⟩
  ·simp only[go_sem,zE,zB,zA,zM,zS,zL,reduceCtorEq,fits,yGb,yQ1,xVo];intro g cap hgc;obtain⟨hg,hc1⟩:=hgc;have gb:g≠b12:=by rintro rfl;rw[ISt.put_same] at hg;cases hg
   rw[yQ6 gb] at hg;simp only[go_sem,zE,zB,zA,zM,zS,zL,reduceCtorEq,fits,yQ6 gb.symm,yQ6 gb,IV.one,show ((0:Int)<=((0:Nat):Int)/\(0:Nat)<1)=True from eq_true (by decide),List.flatMap_cons,List.flatMap_nil,IV.cells,List.append_nil,List.cons_append,List.nil_append];rw[zV1 gb,yQ8];exact .first hx hg gb hc1 (by simp;omega) rfl
  ·simp only[go_sem,zE,zB,zA,zM,zS,zL,reduceCtorEq,fits,yGb,yQ6 hgb.symm,yQ1,xVo];refine yXc _ _ _ (ISt.put_same ..) rfl ⟨by show (l.length+1)*72<=_;omega,by show l.length+1<=_;omega⟩ ⟨hcap,hroom⟩ rfl ?_;intro g' cap' cs' hg' k1 k2 k3;obtain⟨gb',hgn⟩:=yUh hg hgb hg';simp only[go_sem,zE,zB,zA,zM,zS,zL,reduceCtorEq,fits,yQ6 gb'.symm,yQ6 gb',yQ6 hgb.symm,IV.one];have k2':cap'*4<=cs'.length:=k2;have k1':l.length+1<=cap':=k1;rw[if_pos ⟨iNn _,Nat.lt_succ_self _⟩,if_pos (by omega),yU7 hg hgb gb',yQ8];exact .snoc hzs hx hgn gb' k1 (by simp only[lLa,List.length_take,List.length_drop,List.length_cons,List.length_nil];omega) (zXo (by rw[zZ3 hzs]) rfl (by omega) (k3.trans (congrArg (·++_) hcs)))
 ·rcases hF with⟨rfl,rfl⟩|⟨g,cap,cs,zs,hl0,hg,hgb,hcap,hroom,hcs,hzs,rfl⟩
  ·simp only[go_sem,zE,zB,zA,zM,zS,zL,reduceCtorEq,fits,yGb,yQ1,xVo];intro g cap hgc;obtain⟨hg,hc1⟩:=hgc;have gb:g≠b12:=by rintro rfl;rw[ISt.put_same] at hg;cases hg
   rw[yQ6 gb] at hg;simp only[go_sem,zE,zB,zA,zM,zS,zL,reduceCtorEq,fits,yQ6 gb.symm,IV.one];rw[zV1 gb];exact .first hx hg gb hc1 (by simp[IV.cells];omega) rfl
  ·simp only[go_sem,zE,zB,zA,zM,zS,zL,reduceCtorEq,fits,yGb,yQ6 hgb.symm,yQ1];refine yXc _ _ _ (ISt.put_same ..) rfl ⟨by show (l.length+1)*72<=_;omega,by show l.length+1<=_;omega⟩ ⟨hcap,hroom⟩ rfl ?_;intro g' cap' cs' hg' k1 k2 k3;obtain⟨gb',hgn⟩:=yUh hg hgb hg';simp only[go_sem,zE,zB,zA,zM,zS,zL,reduceCtorEq,fits,yQ6 gb'.symm,yQ6 gb',yQ6 hgb.symm,IV.one];rw[yU7 hg hgb gb'];exact .snoc hzs hx hgn gb' k1 k2 (k3.trans (congrArg (·++_) hcs))
mutual
theorem vZ4:∀f:Fm,ColC gl f
 | .mk o n us sub=>wZy gl o n us sub (wJp sub)
theorem wJp:∀l:List Fm,∀a∈l,ColC gl a
 | [],_,h=>by cases h
 | b::l,a,h=>by
  rcases List.mem_cons.1 h with h1|h
  ·rw[h1];exact vZ4 b
  ·exact wJp l a h
end
theorem xY4 (T:Gt gl)(ca m:Nat)(tw:Tag)(xw:List IV)(ln:Ln)(x:IV)(hx:IsLn ln x)(e:Ex)(y:IV)(hy:IsEx e y)(hl:ln.1.length<=300000/\ln.2.length<=300000/\e.1.1.length<=300000/\e.1.2.length<=300000/\e.2.1<=300000/\e.2.2<=300000)(st:ISt) :
  ICall prog gl 74 [spI ca tw xw m,x,y] st (λr st'=>(∃a b c d,r=.tup [.agg [.sl a b,.sl c d],.raw (.bool (!tooN (calJ ca) ln e))]/\(tooN (calJ ca) ln e=false->IsLn (yGh (calJ ca) ln e) (.agg [.sl a b,.sl c d])))/\st'=st):=by
 obtain⟨t1,t2,rfl,e1,e2⟩:=hx;obtain⟨t3,t4,rfl,e3,e4⟩:=hy;obtain⟨l1,l2,l3,l4,l5,l6⟩:=hl;have dc:decide ((ca:Int)=2)=calJ ca:=decide_eq_decide.2 (by omega);have w1:IntKind.i64.wrap ((ln.1.length:Int)+(e.2.1:Int))=((ln.1.length+e.2.1:Nat):Int):=by rw[w64 (by omega) (by omega)];omega
 have d1:decide ((64:Int)<((ln.1.length+e.2.1:Nat):Int))=decide (64<ln.1.length+e.2.1):=decide_eq_decide.2 (by omega);have d0:decide ((0:Int)<(e.2.2:Int))=decide (0<e.2.2):=decide_eq_decide.2 (by omega);have nl:(yQi [])=[]:=rfl;have hj:=λ(R:List Nat) (tR:Tag) (hR:okEs tR 1) (hRl:R.length<=300000) st=>wJ9 gl T R e.1.2 tR t4 hR e4 (by omega) st;have hj1:=λst=>wJ9 gl T ln.1 e.1.1 t1 t3 e1 e3 (by omega) st;refine ICall.intro (c:=cf prog gl [] [(5,[0,1,2,3,4,6,7,8,9,10,5,11,12,13,14])]) func74 rfl (by show _<=49;simp) (by kernel_rfl) ?_;generalize calJ ca=jj at dc ⊢;cases jj
 ·have hR:rgtN (false) ln e=ln.2:=by unfold rgtN;rw[if_neg (by simp)]
  have w2:IntKind.i64.wrap (((ln.2).length:Int)+(e.2.2:Int))=(((ln.2).length+e.2.2:Nat):Int):=by rw[w64 (by first|omega|(simp only[List.length_nil];omega)) (by first|omega|(simp only[List.length_nil];omega))];first|omega|(simp only[List.length_nil];omega)
  have d2:decide ((64:Int)<(((ln.2).length+e.2.2:Nat):Int))=decide (64<(ln.2).length+e.2.2):=decide_eq_decide.2 (by omega);by_cases h1:64<ln.1.length+e.2.1
  ·have ht:tooN (false) ln e=true:=by unfold tooN;rw[dEt h1];rfl
   simp only[go_sem,zE,zB,zA,zM,zS,zL,reduceCtorEq,dc,fits,yQp,w1,d1,dEt h1];intros;exact yQ0 ⟨⟨_,_,_,_,by rw[ht];rfl,λh=>by rw[ht] at h;cases h⟩,rfl⟩
  ·by_cases h2:64<(ln.2).length+e.2.2
   ·have ht:tooN (false) ln e=true:=by unfold tooN;rw[hR,dEt h2,Bool.or_true]
    try simp only[List.length_nil] at w2 d2
    simp only[go_sem,zE,zB,zA,zM,zS,zL,reduceCtorEq,dc,fits,yQp,w1,d1,dEf h1,w2,d2,dEt h2,d2];intros;exact yQ0 ⟨⟨_,_,_,_,by rw[ht];rfl,λh=>by rw[ht] at h;cases h⟩,rfl⟩
   ·have ht:tooN (false) ln e=false:=by unfold tooN;rw[hR,dEf h1,dEf h2];rfl
    try simp only[List.length_nil] at w2 d2
    simp only[go_sem,zE,zB,zA,zM,zS,zL,reduceCtorEq,dc,fits,yQp,w1,d1,dEf h1,w2,d2,dEf h2,d2];intros;refine (hj1 _).mono ?_;rintro _ st ⟨⟨t5,rfl,e5⟩,rfl⟩;simp only[go_sem,zE,zB,zA,zM,zS,zL,reduceCtorEq,fits];refine (hj (ln.2) t2 (by first|exact e2|exact .inl rfl) (by first|omega|(simp only[List.length_nil];omega)) _).mono ?_;rintro _ st ⟨⟨t6,rfl,e6⟩,rfl⟩;simp only[go_sem,zE,zB,zA,zM,zS,zL,reduceCtorEq,fits];exact yQ0 ⟨⟨_,_,_,_,by rw[ht];rfl,λ_=>⟨t5,t6,(by unfold yGh;rw[hR];try rfl),e5,e6⟩⟩,rfl⟩
 ·by_cases h0:0<e.2.2
  ·have hR:rgtN (true) ln e=([]:List Nat):=by unfold rgtN;rw[if_pos ⟨rfl,h0⟩]
   have w2:IntKind.i64.wrap (((([]:List Nat)).length:Int)+(e.2.2:Int))=(((([]:List Nat)).length+e.2.2:Nat):Int):=by rw[w64 (by first|omega|(simp only[List.length_nil];omega)) (by first|omega|(simp only[List.length_nil];omega))];first|omega|(simp only[List.length_nil];omega)
   have d2:decide ((64:Int)<(((([]:List Nat)).length+e.2.2:Nat):Int))=decide (64<(([]:List Nat)).length+e.2.2):=decide_eq_decide.2 (by omega);by_cases h1:64<ln.1.length+e.2.1
   ·have ht:tooN (true) ln e=true:=by unfold tooN;rw[dEt h1];rfl
    simp only[go_sem,zE,zB,zA,zM,zS,zL,reduceCtorEq,dc,d0,dEt h0,fits,yQp,w1,d1,dEt h1];intros;exact yQ0 ⟨⟨_,_,_,_,by rw[ht];rfl,λh=>by rw[ht] at h;cases h⟩,rfl⟩
   ·by_cases h2:64<(([]:List Nat)).length+e.2.2
    ·have ht:tooN (true) ln e=true:=by unfold tooN;rw[hR,dEt h2,Bool.or_true]
     try simp only[List.length_nil] at w2 d2
     simp only[go_sem,zE,zB,zA,zM,zS,zL,reduceCtorEq,dc,d0,dEt h0,fits,yQp,w1,d1,dEf h1,w2,d2,dEt h2,dEt (show (64:Int)<(e.2.2:Int) by simp at h2;omega)];intros;exact yQ0 ⟨⟨_,_,_,_,by rw[ht];rfl,λh=>by rw[ht] at h;cases h⟩,rfl⟩
    ·have ht:tooN (true) ln e=false:=by unfold tooN;rw[hR,dEf h1,dEf h2];rfl
     try simp only[List.length_nil] at w2 d2
     simp only[go_sem,zE,zB,zA,zM,zS,zL,reduceCtorEq,dc,d0,dEt h0,fits,yQp,w1,d1,dEf h1,w2,d2,dEf h2,dEf (show ¬ (64:Int)<(e.2.2:Int) by simp at h2;omega)];intros;refine (hj1 _).mono ?_;rintro _ st ⟨⟨t5,rfl,e5⟩,rfl⟩;simp only[go_sem,zE,zB,zA,zM,zS,zL,reduceCtorEq,fits];refine (hj (([]:List Nat)) ⟨true,.nil,0⟩ (by first|exact e2|exact .inl rfl) (by first|omega|(simp only[List.length_nil];omega)) _).mono ?_;rintro _ st ⟨⟨t6,rfl,e6⟩,rfl⟩;simp only[go_sem,zE,zB,zA,zM,zS,zL,reduceCtorEq,fits];exact yQ0 ⟨⟨_,_,_,_,by rw[ht];rfl,λ_=>⟨t5,t6,(by unfold yGh;rw[hR];try rfl),e5,e6⟩⟩,rfl⟩
  ·have hR:rgtN (true) ln e=ln.2:=by unfold rgtN;rw[if_neg λh=>h0 h.2]
   have w2:IntKind.i64.wrap (((ln.2).length:Int)+(e.2.2:Int))=(((ln.2).length+e.2.2:Nat):Int):=by rw[w64 (by first|omega|(simp only[List.length_nil];omega)) (by first|omega|(simp only[List.length_nil];omega))];first|omega|(simp only[List.length_nil];omega)
   have d2:decide ((64:Int)<(((ln.2).length+e.2.2:Nat):Int))=decide (64<(ln.2).length+e.2.2):=decide_eq_decide.2 (by omega);by_cases h1:64<ln.1.length+e.2.1
   ·have ht:tooN (true) ln e=true:=by unfold tooN;rw[dEt h1];rfl
    simp only[go_sem,zE,zB,zA,zM,zS,zL,reduceCtorEq,dc,d0,dEf h0,fits,yQp,w1,d1,dEt h1];intros;exact yQ0 ⟨⟨_,_,_,_,by rw[ht];rfl,λh=>by rw[ht] at h;cases h⟩,rfl⟩
   ·by_cases h2:64<(ln.2).length+e.2.2
    ·have ht:tooN (true) ln e=true:=by unfold tooN;rw[hR,dEt h2,Bool.or_true]
     try simp only[List.length_nil] at w2 d2
     simp only[go_sem,zE,zB,zA,zM,zS,zL,reduceCtorEq,dc,d0,dEf h0,fits,yQp,w1,d1,dEf h1,w2,d2,dEt h2,d2];intros;exact yQ0 ⟨⟨_,_,_,_,by rw[ht];rfl,λh=>by rw[ht] at h;cases h⟩,rfl⟩
    ·have ht:tooN (true) ln e=false:=by unfold tooN;rw[hR,dEf h1,dEf h2];rfl
     try simp only[List.length_nil] at w2 d2
     simp only[go_sem,zE,zB,zA,zM,zS,zL,reduceCtorEq,dc,d0,dEf h0,fits,yQp,w1,d1,dEf h1,w2,d2,dEf h2,d2];intros;refine (hj1 _).mono ?_;rintro _ st ⟨⟨t5,rfl,e5⟩,rfl⟩;simp only[go_sem,zE,zB,zA,zM,zS,zL,reduceCtorEq,fits];refine (hj (ln.2) t2 (by first|exact e2|exact .inl rfl) (by first|omega|(simp only[List.length_nil];omega)) _).mono ?_;rintro _ st ⟨⟨t6,rfl,e6⟩,rfl⟩;simp only[go_sem,zE,zB,zA,zM,zS,zL,reduceCtorEq,fits];exact yQ0 ⟨⟨_,_,_,_,by rw[ht];rfl,λ_=>⟨t5,t6,(by unfold yGh;rw[hR];try rfl),e5,e6⟩⟩,rfl⟩
def plcs (ln:Ln):List (Nat×Bool):=(ln.1.map λi=>(i,false))++ln.2.map λi=>(i,true)
abbrev plcI (p:Nat×Bool):IV:=.agg [.raw (.int .i64 (p.1:Int)),.raw (.bool p.2)]
def plX (ln:Ln):Nat->List IV->Prop:=λk a=>∃p,(plcs ln)[k]?=some p/\a=[plcI p]
theorem yGi (ln:Ln):(plcs ln).length=ln.1.length+ln.2.length:=by simp[plcs]
theorem xX2 (ln:Ln)(x:IV)(hx:IsLn ln x)(st:ISt):ICall prog gl 72 [x] st (λr st'=>r=.fn (.func 108) [] [.cptr x]/\st'=st):=by
 obtain⟨t1,t2,rfl,e1,e2⟩:=hx;refine ICall.intro (c:=cf prog gl [] [] [1]) func72 rfl (by show _<=4;simp) (by kernel_rfl) ?_;simp only[go_sem,zE,zB,zA,zM,zS,zL,reduceCtorEq,fits];exact yQ0 ⟨rfl,rfl⟩
theorem zYe (ln:Ln)(x:IV)(hx:IsLn ln x)(hl:ln.1.length<=1000000/\ln.2.length<=1000000)(I:Nat->ISt->Prop):IterC prog gl 108 [] [.cptr x] (plX ln) (plcs ln).length I:=by
 obtain⟨t1,t2,rfl,e1,e2⟩:=hx;rintro y I' S' st ⟨f,fi,ca,rfl,hfn,hent⟩ _ hy h0;change ICall prog gl _ [.fn f fi ca,_] st _;refine iI func108 ?_;simp only[go_sem,zE,zB,zA,zM,zS,zL,reduceCtorEq,fits,yQp];intros;refine LoopC.ctr ln.1.length (λk fr st' ds=>I' k st'/\fr 0=.iv (.fn f fi ca)/\fr 1=.iv (.cptr (.agg [.sl t1 (yQi ln.1),.sl t2 (yQi ln.2)]))/\fr 8=.iv (.sl t1 (yQi ln.1))/\fr 9=.iv (.raw (.int .i64 ln.1.length))/\fr 10=.iv (.raw (.int .i64 (k:Int)))/\ds=[]) ?_ ?_ ?_
 ·simp only[go_sem,zE,zB,zA,zM,zS,zL,reduceCtorEq];exact⟨h0,rfl⟩
 ·rintro k fr st _ hlt ⟨hI,f0,f1,f8,f9,f10,rfl⟩;obtain⟨n,hn⟩:=yQ3 hlt;have hcall:=hy k [plcI (n,false)] st ⟨(n,false),by unfold plcs;rw[List.getElem?_append_left (by simpa using hlt),List.getElem?_map,hn];rfl,rfl⟩ hI;simp only[go_sem,zE,zB,zA,zM,zS,zL,reduceCtorEq,f0,f1,f8,f9,f10,lt_i hlt,yQ4 e1,iNn,yX2 hn,fits];refine yZc hent (hcall.mono ?_);rintro _ st (⟨rfl,h⟩|⟨rfl,h⟩)
  ·simp only[go_sem,zE,zB,zA,zM,zS,zL,reduceCtorEq,f0,f1,f8,f9,f10,yQf hlt (show ln.1.length<=281474976710656 by omega)];exact h
  ·simp only[go_sem,zE,zB,zA,zM,zS,zL,reduceCtorEq];exact yQ0 (.inr h)
 ·rintro fr st _ ⟨hI,f0,f1,f8,f9,f10,rfl⟩;simp only[go_sem,zE,zB,zA,zM,zS,zL,reduceCtorEq,f0,f1,f9,f10,yQo (nLi _),yQp];intro _;refine LoopC.ctr ln.2.length (λk fr st' ds=>I' (ln.1.length+k) st'/\fr 0=.iv (.fn f fi ca)/\fr 21=.iv (.sl t2 (yQi ln.2))/\fr 22=.iv (.raw (.int .i64 ln.2.length))/\fr 23=.iv (.raw (.int .i64 (k:Int)))/\ds=[]) ?_ ?_ ?_
  ·simp only[go_sem,zE,zB,zA,zM,zS,zL,reduceCtorEq];exact⟨hI,f0,rfl⟩
  ·rintro k fr st _ hlt ⟨hI,f0,f21,f22,f23,rfl⟩;obtain⟨n,hn⟩:=yQ3 hlt;have hcall:=hy (ln.1.length+k) [plcI (n,true)] st ⟨(n,true),by unfold plcs;rw[List.getElem?_append_right (by simp),List.length_map,Nat.add_sub_cancel_left,List.getElem?_map,hn];rfl,rfl⟩ hI;simp only[go_sem,zE,zB,zA,zM,zS,zL,reduceCtorEq,f0,f21,f22,f23,lt_i hlt,yQ4 e2,iNn,yX2 hn,fits];refine yZc hent (hcall.mono ?_);rintro _ st (⟨rfl,h⟩|⟨rfl,h⟩)
   ·simp only[go_sem,zE,zB,zA,zM,zS,zL,reduceCtorEq,f0,f21,f22,f23,yQf hlt (show ln.2.length<=281474976710656 by omega)];exact h
   ·simp only[go_sem,zE,zB,zA,zM,zS,zL,reduceCtorEq];exact yQ0 (.inr h)
  ·rintro fr st _ ⟨hI,f0,f21,f22,f23,rfl⟩;simp only[go_sem,zE,zB,zA,zM,zS,zL,reduceCtorEq,f22,f23,yQo (nLi _)];refine yQ0 (.inl ?_);rw[yGi];exact hI
theorem xYg (m:Nat)(w x:IV)(c:List IV)(hw:w=.cptr (.agg c))(ln:Ln)(hx:IsLn ln x)(st:ISt):ICall prog gl 40 [w,x] st (λr st'=>r=.fn (.func 71) [] [.cptr x,.cptr w]/\st'=st):=by
 obtain⟨t1,t2,rfl,e1,e2⟩:=hx;subst hw;refine ICall.intro (c:=cf prog gl [] [] [2,3]) func40 rfl (by show _<=6;simp) (by kernel_rfl) ?_;simp only[go_sem,zE,zB,zA,zM,zS,zL,reduceCtorEq,fits];exact yQ0 ⟨rfl,rfl⟩
theorem nanC (a:Int)(st:ISt):ICall prog gl 134 [.raw (.int .i64 a)] st (λr st'=>r=.raw (.bool false)/\st'=st):=by
 refine iI func134 ?_;simp only[go_sem,zE,zB,zA,zM,zS,zL,reduceCtorEq,decide_true];exact yQ0 ⟨rfl,rfl⟩
theorem nanS (a:Int)(st:ISt):ICall prog gl 104 [.raw (.int .i64 a)] st (λr st'=>r=.raw (.bool false)/\st'=st):=by
 refine iI func104 ?_;simp only[go_sem,zE,zB,zA,zM,zS,zL,reduceCtorEq,decide_true];exact yQ0 ⟨rfl,rfl⟩
theorem wZa (a b:Int)(st:ISt):ICall prog gl 103 [.raw (.int .i64 a),.raw (.int .i64 b)] st (λr st'=>r=.raw (.bool (decide (a<b)))/\st'=st):=by
 refine iI func103 ?_;simp only[go_sem,zE,zB,zA,zM,zS,zL,reduceCtorEq];refine (nanC gl _ _).mono ?_;rintro _ st ⟨rfl,rfl⟩;simp only[go_sem,zE,zB,zA,zM,zS,zL,reduceCtorEq];exact yQ0 ⟨rfl,rfl⟩
theorem uJc (l:List Nat)(tg:Tag)(htg:okEs tg 1)(hl:Inc l)(hlen:l.length<=1099511627776)(n:Nat)(st:ISt) :
  ICall prog gl 69 [.sl tg (yQi l),.raw (.int .i64 (n:Int))] st
   (λr st'=>(∃(i:Nat),r=.tup [.raw (.int .i64 (i:Int)),.raw (.bool (decide (n∈l)))])/\st'=st):=by
 have hlt':∀ {i k a b:Nat},l[i]?=some a->l[k]?=some b->i<k->a<b:=λha hb hik=>by
  obtain⟨h1,h2⟩:=lGs ha;obtain⟨h3,h4⟩:=lGs hb;have:=List.pairwise_iff_getElem.1 hl _ _ h1 h3 hik
  rwa [h2,h4] at this
 have c1:=λn:Int=>yXs prog 3 185 zJc zVt .i64 n;have c2:=λn:Int=>yXs prog 185 3 zVt zJc .u64 n;refine iI func69 ?_;simp only[go_sem,zE,zB,zA,zM,zS,zL,reduceCtorEq,yQp];intro _;refine LoopC.dec l.length (λm fr st' ds=>(∃lo hi,m=hi-lo/\lo<=hi/\hi<=l.length/\(∀k a,k<lo->l[k]?=some a->a<n)/\(∀k a,hi<=k->l[k]?=some a->¬ a<n)/\fr 7=.iv (.raw (.int .i64 (lo:Int)))/\fr 8=.iv (.raw (.int .i64 (hi:Int))))/\fr 0=.iv (.sl tg (yQi l))/\fr 1=.iv (.raw (.int .i64 (n:Int))) /\
  fr 6=.iv (.raw (.int .i64 l.length))/\st'=st/\ds=[]) ?_ ?_
 ·simp only[go_sem,zE,zB,zA,zM,zS,zL,reduceCtorEq];refine⟨0,l.length,by omega,by omega,by omega,λk a hk=>absurd hk (by omega),λk a hk ha=>?_,rfl,rfl⟩;have:=(lGs ha).1;omega
 ·rintro m fr st1 _ ⟨⟨lo,hi,hm,hlh,hhn,h1,h2,f7,f8⟩,f0,f1,f6,rfl,rfl⟩;by_cases hlt:lo<hi
  ·obtain⟨hm1,hm2⟩:=wJe hlh hhn hlen;obtain⟨a,ha⟩:=yQ3 (l:=l) (k:=(lo+hi) / 2) (by omega);simp only[go_sem,zE,zB,zA,zM,zS,zL,reduceCtorEq,f0,f1,f6,f7,f8,lt_i hlt,c1,c2,show ((0:Int)<=1)=True from eq_true (by omega),wJd,hm1,hm2,yQ4 htg,iNn,yX2 ha,fits];refine (wZa gl _ _ _).mono ?_;rintro _ _ ⟨rfl,rfl⟩;by_cases hc:a<n
   ·simp only[go_sem,zE,zB,zA,zM,zS,zL,reduceCtorEq,f0,f1,f6,f7,f8,dEt (show (a:Int)<n by omega),yQf (show (lo+hi) / 2<l.length by omega) (show l.length<=281474976710656 by omega)];refine⟨hi-((lo+hi) / 2+1),by omega,(lo+hi) / 2+1,hi,rfl,by omega,hhn,λk b hk hb=>?_,h2,rfl,rfl⟩;rcases Nat.lt_or_ge k ((lo+hi) / 2) with h|h
    ·exact Nat.lt_trans (hlt' hb ha h) hc
    ·obtain rfl:k=(lo+hi) / 2:=by omega
     rw[ha] at hb;cases hb;exact hc
   ·simp only[go_sem,zE,zB,zA,zM,zS,zL,reduceCtorEq,f0,f1,f6,f7,f8,dEf (show ¬ (a:Int)<n by omega)];refine⟨(lo+hi) / 2-lo,by omega,lo,(lo+hi) / 2,rfl,by omega,by omega,h1,λk b hk hb=>?_,rfl,rfl⟩;rcases Nat.lt_or_ge ((lo+hi) / 2) k with h|h
    ·have:=hlt' ha hb h;omega
    ·obtain rfl:k=(lo+hi) / 2:=by omega
     rw[ha] at hb;cases hb;exact hc
  ·obtain rfl:lo=hi:=by omega
   have hmem:n∈l↔l[lo]?=some n:=⟨λh=>by
    obtain⟨k,hk⟩:=List.mem_iff_getElem?.1 h;rcases Nat.lt_trichotomy k lo with h|h|h
    ·exact absurd (h1 k n h hk) (nLi _)
    ·rwa [<- h]
    ·obtain⟨b,hb⟩:=yQ3 (l:=l) (k:=lo) (by have:=(lGs hk).1;omega);exact absurd (hlt' hb hk h) (h2 lo b (Nat.le_refl _) hb),lMg⟩
   by_cases hln:lo<l.length
   ·obtain⟨a,ha⟩:=yQ3 hln;by_cases hc:a=n
    ·subst hc;have hd:decide (a∈l)=true:=dEt (hmem.2 ha);rw[hd];simp only[go_sem,zE,zB,zA,zM,zS,zL,reduceCtorEq,f0,f1,f6,f7,f8,yQo (nLi _),lt_i hln,yQ4 htg,iNn,yX2 ha,fits,decide_true];exact yQ0 ⟨⟨lo,rfl⟩,rfl⟩
    ·have hd:decide (n∈l)=false:=dEf λh=>by
      rw[hmem,ha] at h;cases h;exact hc rfl
     rw[hd];simp only[go_sem,zE,zB,zA,zM,zS,zL,reduceCtorEq,f0,f1,f6,f7,f8,yQo (nLi _),lt_i hln,yQ4 htg,iNn,yX2 ha,fits,dEf (show ¬ (a:Int)=n by omega)];refine (nanS gl _ _).mono ?_;rintro _ _ ⟨rfl,rfl⟩;simp only[go_sem,zE,zB,zA,zM,zS,zL,reduceCtorEq,f0,f1,f6,f7,f8];exact yQ0 ⟨⟨lo,rfl⟩,rfl⟩
   ·have hd:decide (n∈l)=false:=dEf λh=>by
     rw[hmem] at h;exact hln (lGs h).1
    rw[hd];simp only[go_sem,zE,zB,zA,zM,zS,zL,reduceCtorEq,f0,f1,f6,f7,f8,yQo (nLi _),yQo hln];exact yQ0 ⟨⟨lo,rfl⟩,rfl⟩
def axW (W:List Fm)(ln:Ln):Option (Nat×Fm):=match ln.1.find? (λi=>decide (i∈ln.2)) with
 | some i=>some (1,(W[i]?).getD fm0)
 | none=>if (ln.1.any λi=>xQg ((W[i]?).getD fm0))=true then some (2,.mk 2 noN [] []) else none
theorem xUe {W:List Fm}{ln:Ln}(h:Ix W ln.1):(axW W ln).isSome=true↔clN W ln:=by
 unfold axW clN;cases hq:ln.1.find? (λi=>decide (i∈ln.2)) with
 | some i=>simp;exact .inl ⟨i,List.mem_of_find?_eq_some hq,by simpa using List.find?_some hq⟩
 | none =>
  have hno:¬ ∃i∈ln.1,i∈ln.2:=λ⟨i,h1,h2⟩=>by
   have:=List.find?_eq_none.1 hq i h1;simp[h2] at this
  simp only[hno,false_or];constructor
  ·intro h2;split at h2
   ·rename_i ha;obtain⟨i,hi,hf⟩:=List.any_eq_true.1 ha;obtain⟨f,hw⟩:=h.get hi;exact⟨i,hi,f,hw,by rw[hw] at hf;exact hf⟩
   ·cases h2
  ·rintro⟨i,hi,f,hw,hf⟩;rw[if_pos (List.any_eq_true.2 ⟨i,hi,by rw[hw];exact hf⟩)];rfl
theorem xV4 {p:Nat->Bool}{l:List Nat}{k a:Nat}(h:(l.take k).find? p=none)(ha:l[k]?=some a):(p a=true->l.find? p=some a)/\(p a=false->(l.take (k+1)).find? p=none):=by
 refine⟨λhp=>?_,λhp=>?_⟩
 ·obtain⟨h1,h2⟩:=lGs ha;rw[<- List.take_append_drop k l,List.find?_append,h,List.drop_eq_getElem_cons h1,h2];simp[hp]
 ·rw[yQ7 ha,List.find?_append,h];simp[hp]
theorem xXs (f:Fm):xQg f=decide (f.op=2):=by cases f;rfl
theorem xZ2 (ca m:Nat)(W:List Fm)(hS:SpOk ca W)(tw:Tag)(xw:List IV)(htw:okEs tw 4)(hxw:IsFms W xw)(ln:Ln)(hln:LnOk W ln)(x:IV)(hx:IsLn ln x)(st:ISt) :
  ICall prog gl 38 [spI ca tw xw m,x] st (λr st'=>(∃z,r=.tup [.raw (.int .u8 (((axW W ln).getD (0,fm0)).1:Int)),z,.raw (.bool (axW W ln).isSome)]/\IsFm ((axW W ln).getD (0,fm0)).2 z)/\st'=st):=by
 obtain⟨t1,t2,rfl,e1,e2⟩:=hx;have hl1:=yWf hln.1.1 hln.1.2;have hl2:=yWf hln.2.1 hln.2.2;have hWl:=hS.len;have hbs:=λn st=>uJc gl ln.2 t2 e2 hln.2.1 (by omega) n st;refine iI func38 ?_;simp only[go_sem,zE,zB,zA,zM,zS,zL,reduceCtorEq,fits,yQp];intro _;refine LoopC.ctr ln.1.length (λk fr st' ds=>(ln.1.take k).find? (λi=>decide (i∈ln.2))=none/\fr 0=.iv (spI ca tw xw m)/\fr 3=.box [.sl t1 (yQi ln.1),.sl t2 (yQi ln.2)]/\(∃c,fr 5=.box c/\c.length=4) /\
  fr 14=.iv (.sl t1 (yQi ln.1))/\fr 15=.iv (.raw (.int .i64 ln.1.length))/\fr 16=.iv (.raw (.int .i64 (k:Int)))/\st'=st/\ds=[]) ?_ ?_ ?_
 ·simp only[go_sem,zE,zB,zA,zM,zS,zL,reduceCtorEq];exact⟨rfl,⟨_,rfl,rfl⟩,rfl⟩
 ·rintro k fr st1 _ hlt ⟨hno,f0,f3,⟨c5,f5,hc5⟩,f14,f15,f16,rfl,rfl⟩;obtain⟨a,ha⟩:=yQ3 hlt;obtain⟨g,hg⟩:=hln.1.get (lMg ha);have hgl:=(lGs hg).1;obtain⟨q1,q2⟩:=xV4 hno ha;simp only[go_sem,zE,zB,zA,zM,zS,zL,reduceCtorEq,f0,f3,f5,f14,f15,f16,lt_i hlt,yQ4 e1,iNn,yX2 ha,fits];refine (hbs a _).mono ?_;rintro _ st ⟨⟨i,rfl⟩,rfl⟩;by_cases hin:a∈ln.2
  ·have hax:axW W ln=some (1,g):=by unfold axW;rw[q1 (dEt hin)];simp[hg]
   obtain⟨y,hky,hy⟩:=hxw.get hg;have hcp:=λst=>zZk gl g y hy (by have:=hS.size (lMg hg);omega) st;obtain⟨y1,y2,y3,y4,y5,y6,rfl⟩:=hy.agg;simp only[go_sem,zE,zB,zA,zM,zS,zL,reduceCtorEq,f0,f3,f5,f14,f15,f16,dEt hin,fits,hky,lt_i hgl,yQ4 htw,iNn];refine (hcp _).mono ?_;rintro z _ ⟨hz,rfl⟩;have hz':=hz.1;obtain⟨z1,z2,z3,z4,z5,z6,rfl⟩:=hz'.agg;simp only[go_sem,zE,zB,zA,zM,zS,zL,reduceCtorEq,f5,fits,hc5];rw[hax];refine yQ0 ⟨⟨_,rfl,?_⟩,rfl⟩;exact hz'
  ·simp only[go_sem,zE,zB,zA,zM,zS,zL,reduceCtorEq,f0,f3,f5,f14,f15,f16,dEf hin,fits,yQf hlt (show ln.1.length<=281474976710656 by omega)];exact⟨q2 (dEf hin),_,rfl,hc5⟩
 ·rintro fr st1 _ ⟨hno,f0,f3,⟨c5,f5,hc5⟩,f14,f15,f16,rfl,rfl⟩;rw[lTl] at hno;simp only[go_sem,zE,zB,zA,zM,zS,zL,reduceCtorEq,f0,f3,f14,f15,f16,yQo (nLi _),yQp];intro _;refine LoopC.ctr ln.1.length (λk fr st' ds=>((ln.1.take k).any λi=>xQg ((W[i]?).getD fm0))=false/\fr 0=.iv (spI ca tw xw m)/\(∃c,fr 5=.box c/\c.length=4) /\
   fr 38=.iv (.sl t1 (yQi ln.1))/\fr 39=.iv (.raw (.int .i64 ln.1.length))/\fr 40=.iv (.raw (.int .i64 (k:Int)))/\st'=st1/\ds=[]) ?_ ?_ ?_
  ·simp only[go_sem,zE,zB,zA,zM,zS,zL,reduceCtorEq];exact⟨rfl,f0,⟨_,f5,hc5⟩,rfl⟩
  ·rintro k fr st _ hlt ⟨hny,f0,⟨c5,f5,hc5⟩,f38,f39,f40,rfl,rfl⟩;obtain⟨a,ha⟩:=yQ3 hlt;obtain⟨g,hg⟩:=hln.1.get (lMg ha);have hgl:=(lGs hg).1;obtain⟨y,hky,hy⟩:=hxw.get hg;obtain⟨y1,y2,y3,y4,y5,y6,rfl⟩:=hy.agg;obtain rfl:y1=g.op:=wUm hy;have htk:(ln.1.take (k+1)).any (λi=>xQg ((W[i]?).getD fm0))=decide (g.op=2):=by
    rw[yQ7 ha,List.any_append,hny,List.any_cons,List.any_nil,hg,<- xXs g];simp
   by_cases h2:g.op=2
   ·have hax:axW W ln=some (2,.mk 2 noN [] []):=by
     unfold axW;rw[hno];simp only;rw[if_pos (List.any_eq_true.2 ⟨a,lMg ha,by rw[hg];simp[xXs,h2]⟩)]
    simp only[go_sem,zE,zB,zA,zM,zS,zL,reduceCtorEq,f0,f5,f38,f39,f40,lt_i hlt,yQ4 e1,iNn,yX2 ha,fits,hky,lt_i hgl,yQ4 htw,dEt (show (g.op:Int)=2 by omega),hc5];rw[hax];refine yQ0 ⟨⟨_,rfl,?_⟩,rfl⟩;simp only[IsFm,Option.getD_some];exact⟨_,_,_,_,rfl,by omega,.inl rfl,by simp only[IsTms],.inl rfl,by simp only[IsFms]⟩
   ·simp only[go_sem,zE,zB,zA,zM,zS,zL,reduceCtorEq,f0,f5,f38,f39,f40,lt_i hlt,yQ4 e1,iNn,yX2 ha,fits,hky,lt_i hgl,yQ4 htw,dEf (show ¬ (g.op:Int)=2 by omega),yQf hlt (show ln.1.length<=281474976710656 by omega)];exact⟨by rw[htk];exact dEf h2,_,rfl,hc5⟩
  ·rintro fr st _ ⟨hny,f0,⟨c5,f5,hc5⟩,f38,f39,f40,rfl,rfl⟩;rw[lTl] at hny;have hax:axW W ln=none:=by
    unfold axW;rw[hno];simp only;rw[if_neg (by rw[hny];simp)]
   simp only[go_sem,zE,zB,zA,zM,zS,zL,reduceCtorEq,f5,f39,f40,yQo (nLi _),fits,hc5];rw[hax];refine yQ0 ⟨⟨_,rfl,?_⟩,rfl⟩;simp only[IsFm,Option.getD_none,fm0];exact⟨_,_,_,_,rfl,by omega,.inl rfl,by simp only[IsTms],.inl rfl,by simp only[IsFms]⟩
def b3 (p:Nat×Bool):List UInt8:=[UInt8.ofNat (p.1 / 65536),UInt8.ofNat (p.1 / 256),UInt8.ofNat p.1]
def keyL (ln:Ln):List UInt8:=(plcs ln).flatMap b3++[UInt8.ofNat ln.1.length]
def keyB (ln:Ln):ByteArray:=⟨(keyL ln).toArray⟩
def byI (l:List UInt8):List IV:=l.map λu=>.raw (.int .u8 (u.toNat:Int))
theorem zGk:∀l:List UInt8,yVu (byI l)=some l
 | []=>rfl
 | u::l=>by
  show yVu (.raw (.int .u8 (u.toNat:Int))::byI l)=_;rw[xZ0,zGk l];rfl
theorem kw (k:Nat):IntKind.u8.wrap ((k:Nat):Int)=((UInt8.ofNat k).toNat:Int):=by
 simp[IntKind.wrap,IntKind.bits,IntKind.signed]
theorem ks8 (k:Nat):Int.fdiv (k:Int) (2 ^ min (Int.toNat 8) 64)=((k / 256:Nat):Int):=by
 rw[show (2:Int) ^ min (Int.toNat 8) 64=((256:Nat):Int) from rfl];exact (Int.ofNat_fdiv k 256).symm
theorem ks16 (k:Nat):Int.fdiv (k:Int) (2 ^ min (Int.toNat 16) 64)=((k / 65536:Nat):Int):=by
 rw[show (2:Int) ^ min (Int.toNat 16) 64=((65536:Nat):Int) from rfl];exact (Int.ofNat_fdiv k 65536).symm
theorem xKz (a b c:Operand):yJm 3 [(0,a),(1,b),(2,c)]=true:=rfl
theorem vUt (ln:Ln)(x:IV)(hx:IsLn ln x)(hl:ln.1.length<=1000000/\ln.2.length<=1000000)(st:ISt) :
  ICall prog gl 112 [x] st (λr st'=>r=.raw (.string (keyB ln))/\st'=st):=by
 have hpc:=λst=>xX2 gl ln x hx st;have hp1:=λI=>zYe gl ln x hx ⟨by omega,by omega⟩ I;obtain⟨t1,t2,rfl,e1,e2⟩:=hx;have hcv:=λn:Int=>yXs prog 3 5 zJc wUb .i64 n;refine ICall.intro (c:=cf prog gl [3] []) func112 rfl (by show _<=30;simp) (by kernel_rfl) ?_;simp only[go_sem,zE,zB,zA,zM,zS,zL,reduceCtorEq,fits];refine λb=>yQ9 λhb=>?_;refine (hpc _).mono ?_;rintro _ st1 ⟨rfl,rfl⟩;simp only[go_sem,zE,zB,zA,zM,zS,zL,reduceCtorEq,fits];refine RangeC.intro (plX ln) (plcs ln).length (λk st'=>∃t,st' b=some (.box [.sl t (byI (((plcs ln).take k).flatMap b3))])/\own st' t (3*k) 1 st/\subSt st st') (λ_ _=>False) (by simp only[go_sem]) ?_ ⟨_,ISt.put_same _ _ _,own.nil _ _ _ _ _,yQn hb⟩ ?_ (hp1 _) ?_ (λ_ _ _ h=>h.elim)
 ·rintro k a ⟨p,_,rfl⟩;rfl
 ·rintro k _ st1 ⟨⟨i,r⟩,hp,rfl⟩ ⟨t,h1,h2,h3⟩;simp only[go_sem,zE,zB,zA,zM,zS,zL,reduceCtorEq,fits,h1,hcv,show ((0:Int)<=8)=True from eq_true (by omega),show ((0:Int)<=16)=True from eq_true (by omega),ks8,ks16,kw,xKz];have hkl:k<ln.1.length+ln.2.length:=by rw[<- yGi];exact (lGs hp).1
  have hbl:(byI (((plcs ln).take k).flatMap b3)).length=3*k:=by
   rw[byI,List.length_map];have:∀l:List (Nat×Bool),(l.flatMap b3).length=3*l.length:=λl=>by
    induction l with
    | nil=>rfl
    | cons a l ih=>rw[List.flatMap_cons,lLa,ih,List.length_cons];show 3+_=_;omega
   rw[this,List.length_take,yGi];omega
  refine zGn (m:=3) h2 hbl rfl h3 rfl (by simp[fits,IV.one]) (by simp only;omega) (by omega) λt' st2 h4 h5 h6=>?_;have h7:st2 b=some (.box [.sl t (byI (((plcs ln).take k).flatMap b3))]):=h6 b _ h1 λn h=>by cases h
  simp only[go_sem,zE,zB,zA,zM,zS,zL,reduceCtorEq,h7,fits];refine⟨t',?_,?_,yQd h5 hb⟩
  ·rw[yQ7 hp,List.flatMap_append];simp only[byI,List.map_append];rfl
  ·rw[show 3*(k+1)=3*k+3 by omega];exact h4.mono λg hg _=>by
    rw[yQ6 λh=>by rw[h,h7] at hg;cases hg];exact hg
 ·rintro st1 rr ⟨t,h1,h2,h3⟩;rw[lTl] at h1;simp only[go_sem,zE,zB,zA,zM,zS,zL,reduceCtorEq,h1,fits,yQp,hcv,kw,yQ1];intro _;have hbl:(byI ((plcs ln).flatMap b3)).length=3*(plcs ln).length:=by
   rw[byI,List.length_map];have:∀l:List (Nat×Bool),(l.flatMap b3).length=3*l.length:=λl=>by
    induction l with
    | nil=>rfl
    | cons a l ih=>rw[List.flatMap_cons,lLa,ih,List.length_cons];show 3+_=_;omega
   exact this _
  have hpl:=yGi ln;refine zGn (m:=1) h2 hbl rfl h3 rfl (by simp[fits,IV.one]) (by simp only;omega) (by omega) λt' st2 h4 h5 h6=>?_;have hby:yVu (byI ((plcs ln).flatMap b3)++[.raw (.int .u8 ((UInt8.ofNat ln.1.length).toNat:Int))])=some (keyL ln):=by
   have:=zGk (keyL ln)
   rwa [keyL,byI,List.map_append] at this
  have hne:¬ keyL ln=[]:=by unfold keyL;simp
  have hsz:(keyL ln).toArray.size<=281474976710656:=by
   unfold keyL;rw[List.size_toArray,lLa];rw[byI,List.length_map] at hbl;rw[hbl];simp only[List.length_cons,List.length_nil];omega
  simp only[go_sem,zE,zB,zA,zM,zS,zL,reduceCtorEq,hby,hne,hsz,Option.bind_some,fits];exact yQt h5 ⟨rfl,rfl⟩
theorem wZg {a b:Ln}(ha:(∀i∈a.1,i<16777216)/\∀i∈a.2,i<16777216)(hb:(∀i∈b.1,i<16777216)/\∀i∈b.2,i<16777216)(hl:a.1.length<256/\b.1.length<256)(h:keyB a=keyB b):a=b:=by
 have h1:keyL a=keyL b:=by
  have:=congrArg (λx:ByteArray=>x.data.toList) h;simpa[keyB] using this
 unfold keyL at h1;have h2:=List.append_inj_left' h1 rfl;have h3:=List.append_inj_right' h1 rfl;have hnum:∀n,n<16777216->(UInt8.ofNat (n / 65536)).toNat*65536+(UInt8.ofNat (n / 256)).toNat*256+(UInt8.ofNat n).toNat=n:=λn hn=>by
  simp only[UInt8.toNat_ofNat'];omega
 have key:∀(l m:List (Nat×Bool)),(∀p∈l,p.1<16777216)->(∀p∈m,p.1<16777216)->l.flatMap b3=m.flatMap b3->l.map (·.1)=m.map (·.1):=λl=>by
  induction l with
  | nil =>
   intro m _ _ h;cases m with
   | nil=>rfl
   | cons p m=>simp[b3] at h
  | cons p l ih =>
   intro m hl hm h;cases m with
   | nil=>simp[b3] at h
   | cons q m =>
    rw[List.flatMap_cons,List.flatMap_cons] at h;simp only[b3,List.cons_append,List.nil_append,List.cons.injEq] at h;obtain⟨e1,e2,e3,h⟩:=h;have n1:=hnum p.1 (hl p (.head _));have n2:=hnum q.1 (hm q (.head _));rw[e1,e2,e3,n2] at n1;rw[List.map_cons,List.map_cons,ih m (λx hx=>hl x (.tail _ hx)) (λx hx=>hm x (.tail _ hx)) h,n1]
 have hpl:∀c:Ln,(∀i∈c.1,i<16777216)/\(∀i∈c.2,i<16777216)->∀p∈plcs c,p.1<16777216:=λc hc p hp=>by
  rcases List.mem_append.1 hp with hp|hp
  ·obtain⟨i,hi,rfl⟩:=List.mem_map.1 hp;exact hc.1 i hi
  ·obtain⟨i,hi,rfl⟩:=List.mem_map.1 hp;exact hc.2 i hi
 have h4:=key (plcs a) (plcs b) (hpl a ha) (hpl b hb) h2;have hm:∀c:Ln,(plcs c).map (·.1)=c.1++c.2:=λc=>by simp[plcs,Function.comp_def]
 rw[hm,hm] at h4;have h5:a.1.length=b.1.length:=by
  have:=congrArg UInt8.toNat (List.cons.inj h3).1;simp only[UInt8.toNat_ofNat'] at this;omega
 exact Prod.ext (List.append_inj_left h4 h5) (List.append_inj_right h4 h5)
end Go.Proofs.Tryz
namespace Go.Iv
open Go
theorem ICallV.sub {P:Program}{gl:Nat->Option IV}{f:IV}{args:List IV}{st st0:ISt}{K:IV->ISt->Prop}(h:ICallV P gl f args st0 K)(hs:subSt st0 st):ICallV P gl f args st K:=by
 intro B X fv rs hg hst hf hv;obtain⟨hg1,he1⟩:=hg.sub (st:=st0) (by rw[hst];exact hs);refine (h B { X with st:=st0 } fv rs hg1 rfl (he1.v hf) ⟨hv.1,λi r c hr hc=>he1.v (hv.2 i r c hr hc)⟩).mono λv w' he=>?_;obtain⟨X',x,h1,h2,h3,h4,h5⟩:=he;exact⟨X',x,h1,h2,he1.trans h3,h4,h5⟩
theorem YieldL.none {P:Program}{gl:Nat->Option IV}{y:IV}{xs:Nat->List IV->Prop}{I:Nat->ISt->Prop}{S:ISt->Prop}(h:YieldL P gl y (zJz xs) I S){k:Nat}{a:List IV}{stu:ISt}(hx:xs k a)(hi:I k stu) :
  ICallV P gl y a stu λr st'=>(r=.raw (.bool true)/\I (k+1) st')\/(r=.raw (.bool false)/\S st') :=
 (h k a (λ_=>Option.none) stu ⟨hx,rfl⟩ (λ_ hb=>absurd rfl hb) hi).mono λr st' hr=>hr.imp (λ⟨h1,s1,h2,_,h4⟩=>⟨h1,h4▸h2⟩) id
end Go.Iv
namespace Go.Proofs.Tryz
open Go Go.Iv
set_option maxRecDepth 4000
variable (gl:Nat->Option IV)
abbrev Mv:=Nat×Nat×List Ln
def mvN (j:Bool)(ln:Ln)(i:Nat)(t:Tn):Option Mv:=if t.2.any (tooN j ln)=true then none else some (t.1,i,t.2.map (yGh j ln))
noncomputable def yXd (W:List Fm)(j:Bool)(ln:Ln)(p:Nat×Bool):List (Option Mv):=match W[p.1]? with
 | some f=>(yZo W j f p.2).map (mvN j ln p.1)
 | none=>[]
noncomputable def mvsN (W:List Fm)(j:Bool)(ln:Ln):List (Option Mv):=(plcs ln).flatMap (yXd W j ln)
def cutO {α:Type}:List (Option α)->List (Option α)
 | []=>[]
 | none::_=>[none]
 | some a::l=>some a::cutO l
theorem zZ4 {α:Type}:∀ {l m:List (Option α)},(∀o∈l,o≠none)->cutO (l++m)=l++cutO m
 | [],m,_=>rfl
 | none::l,m,h=>absurd rfl (h none (.head _))
 | some a::l,m,h=>by simp only[List.cons_append,cutO,zZ4 λo ho=>h o (.tail _ ho)]
theorem wZu {α:Type}{l:List (Option α)}(h:∀o∈l,o≠none):cutO l=l:=by
 have:=zZ4 (m:=[]) h;simpa[cutO] using this
theorem wVw {α:Type}{l m:List (Option α)}{o:Option α}(h:∀o∈l,o≠none):(cutO (l++o::m))[l.length]?=some o:=by
 rw[zZ4 h,List.getElem?_append_right (Nat.le_refl _),Nat.sub_self];cases o<;>rfl
theorem xU5 {α:Type}{l m:List (Option α)}(h:∀o∈l,o≠none):(cutO (l++none::m)).length=l.length+1:=by
 rw[zZ4 h,lLa];rfl
def IsMv (v:Mv)(x:IV):Prop:=∃t ys,x=.agg [.raw (.int .u8 (v.1:Int)),.raw (.int .i64 (v.2.1:Int)),.sl t ys]/\okEs t 2/\AllR IsLn v.2.2 ys
def mvA:Option Mv->List IV->Prop
 | some v,a=>∃x,a=[x,.raw (.int .i64 0)]/\IsMv v x
 | none,a=>a=[.agg [.raw (.int .u8 0),.raw (.int .i64 0),.sl ⟨true,.nil,0⟩ []],.raw (.int .i64 5)]
noncomputable def mvX (W:List Fm)(j:Bool)(ln:Ln):Nat->List IV->Prop:=λk a=>∃o,(cutO (mvsN W j ln))[k]?=some o/\mvA o a
def SpSt (ca m:Nat)(W:List Fm)(st:ISt):Prop:=∃es,st m=some (.map .pl es)/\CacheOk ca W es
def SpUp (ca m:Nat)(W:List Fm):Nat->List (Value×IV)->List (Value×IV)->Prop:=λm' es es'=>m'=m/\(CacheOk ca W es->CacheOk ca W es')
theorem yWx (W:List Fm)(l:List Fm):(zZu W l).length<=l.length:=by
 have:=zZi (l.map (noW W))
 rwa [List.length_map] at this
theorem xXb (G:Gl gl)(T:Gt gl)(ca m:Nat)(W:List Fm)(hS:SpOk ca W)(hWs:W.length<=200000)(tw:Tag)(xw:List IV)(htw:okEs tw 4)(hxw:IsFms W xw)(ln:Ln)(hln:LnOk W ln)(x:IV)(hx:IsLn ln x) :
  IterU prog gl 71 [] [.cptr x,.cptr (spI ca tw xw m)] (zJz (mvX W (calJ ca) ln)) (cutO (mvsN W (calJ ca) ln)).length (λ_=>SpSt ca m W) (SpUp ca m W):=by
 have hl1:=yWf hln.1.1 hln.1.2;have hl2:=yWf hln.2.1 hln.2.2;have hpc:=λst=>xX2 gl ln x hx st;have hp1:=λI=>zYe gl ln x hx ⟨by omega,by omega⟩ I;obtain⟨t1,t2,rfl,e1,e2⟩:=hx;rintro y I' S' st ⟨f,fi,ca',rfl,hfn,hent⟩ hI hup hy h0;have hsp:∀ {k stu},I' k stu->SpSt ca m W stu:=λ{k stu} h=>by
  obtain⟨s0,h1,es,h2,h3⟩:=hI k stu h;exact⟨es,h1 _ _ h2,h3⟩
 change ICall prog gl _ [.fn f fi ca',_,_] st _;refine ICall.intro (c:=cf prog gl [] [] [3]) func71 rfl (by show _<=59;simp) (by kernel_rfl) ?_;simp only[go_sem,zE,zB,zA,zM,zS,zL,reduceCtorEq,fits];refine (hpc _).mono ?_;rintro _ st ⟨rfl,rfl⟩;simp only[go_sem,zE,zB,zA,zM,zS,zL,reduceCtorEq,fits]
 let pre:Nat->List (Option Mv):=λk=>((plcs ln).take k).flatMap (yXd W (calJ ca) ln)
 refine RangeC.intro (plX ln) (plcs ln).length (λk st'=>I' (pre k).length st'/\∀o∈pre k,o≠none) (λe st'=>e=.ret/\(S' st'\/I' (cutO (mvsN W (calJ ca) ln)).length st')) (by simp only[go_sem]) ?_ ⟨h0,λo ho=>by cases ho⟩ ?_ (hp1 _) ?_ ?_
 ·rintro k a ⟨p,_,rfl⟩;rfl
 ·rintro k _ st1 ⟨⟨i,r⟩,hp,rfl⟩ ⟨hik,hnn⟩;obtain⟨es,hm,hes⟩:=hsp hik;have hiW:i<W.length:=by
   have:=lMg hp;unfold plcs at this;rcases List.mem_append.1 this with h|h
   ·obtain⟨i',hi',he⟩:=List.mem_map.1 h;cases he;exact hln.1.2 _ hi'
   ·obtain⟨i',hi',he⟩:=List.mem_map.1 h;cases he;exact hln.2.2 _ hi'
  obtain⟨g,hg⟩:=yQ3 hiW;have huses:=wG0 gl G T ca m W hS tw xw htw hxw i r g hg es hes st1 hm;simp only[go_sem,zE,zB,zA,zM,zS,zL,reduceCtorEq,fits];refine huses.mono ?_;rintro _ _ ⟨⟨t,ys,rfl,ht,hys⟩,es',hes',rfl⟩;have hik':=hup (pre k).length st1 m .pl es es' hik hm ⟨rfl,λ_=>hes'⟩;have hat:yXd W (calJ ca) ln (i,r)=(yZo W (calJ ca) g r).map (mvN (calJ ca) ln i):=by unfold yXd;rw[hg]
  have hsplit:∀q tt,(yZo W (calJ ca) g r)[q]?=some tt->∃rest,mvsN W (calJ ca) ln=(pre k++((yZo W (calJ ca) g r).take q).map (mvN (calJ ca) ln i))++mvN (calJ ca) ln i tt::rest:=λq tt hq=>by
   refine⟨((yZo W (calJ ca) g r).drop (q+1)).map (mvN (calJ ca) ln i)++((plcs ln).drop (k+1)).flatMap (yXd W (calJ ca) ln),?_⟩;have h1:plcs ln=(plcs ln).take k++(i,r)::(plcs ln).drop (k+1):=by
    obtain⟨h2,h3⟩:=lGs hp
    conv=>lhs;rw[<- List.take_append_drop k (plcs ln),List.drop_eq_getElem_cons h2,h3]
   have h4:yZo W (calJ ca) g r=(yZo W (calJ ca) g r).take q++tt::(yZo W (calJ ca) g r).drop (q+1):=by
    obtain⟨h2,h3⟩:=lGs hq
    conv=>lhs;rw[<- List.take_append_drop q (yZo W (calJ ca) g r),List.drop_eq_getElem_cons h2,h3]
   unfold mvsN
   conv=>lhs;rw[h1]
   rw[List.flatMap_append,List.flatMap_cons,hat]
   conv=>lhs;rw[h4]
   simp only[List.map_append,List.map_cons,List.append_assoc,List.cons_append,pre]
  have htl2:(yZo W (calJ ca) g r).length<=1000:=by
   have:=yYb (ca:=ca) (hS.pf (lMg hg)) r;unfold yZo;rw[List.length_map,<- List.length_map (f:=(·.1)),this];unfold yJg
   repeat' split
   all_goals simp
  simp only[go_sem,zE,zB,zA,zM,zS,zL,reduceCtorEq,fits];intro _;rw[hys.1];refine LoopC.ctr (yZo W (calJ ca) g r).length (λq fr st' ds=>I' ((pre k).length+q) st'/\(∀o∈((yZo W (calJ ca) g r).take q).map (mvN (calJ ca) ln i),o≠none)/\fr 1=.iv (.cptr (.agg [.sl t1 (yQi ln.1),.sl t2 (yQi ln.2)]))/\fr 2=.iv (.cptr (spI ca tw xw m))/\fr 3=.iv (.cptr (.fn f fi ca')) /\
   fr 4=.box [.raw (.int .i64 (i:Int)),.raw (.bool r)]/\fr 17=.iv (.sl t ys)/\fr 18=.iv (.raw (.int .i64 (yZo W (calJ ca) g r).length))/\fr 19=.iv (.raw (.int .i64 (q:Int)))/\ds=[]) ?_ ?_ ?_
  ·simp only[go_sem,zE,zB,zA,zM,zS,zL,reduceCtorEq];exact⟨hik',λ_ h=>h.elim,rfl⟩
  ·rintro q fr st2 _ hlt ⟨hiq,hnq,f1,f2,f3,f4,f17,f18,f19,rfl⟩;obtain⟨tt,htt⟩:=yQ3 hlt;obtain⟨rest,hrest⟩:=hsplit q tt htt;obtain⟨z,hzk,t3,zs,rfl,e3,hzs⟩:=hys.2 q tt htt;obtain⟨t0,ht0,rfl⟩:=List.mem_map.1 (lMg htt);have hAnn:∀o∈pre k++((yZo W (calJ ca) g r).take q).map (mvN (calJ ca) ln i),o≠none:=λo ho=>(List.mem_append.1 ho).elim (hnn o) (hnq o);have hAl:(pre k++((yZo W (calJ ca) g r).take q).map (mvN (calJ ca) ln i)).length=(pre k).length+q:=by rw[lLa,List.length_map,List.length_take];omega
   have ho:=wVw (l:=pre k++((yZo W (calJ ca) g r).take q).map (mvN (calJ ca) ln i)) (m:=rest) (o:=mvN (calJ ca) ln i (t0.1,t0.2.map (exW W))) hAnn;rw[<- hrest,hAl] at ho;have hp2:=zWl ht0;have hpl:=xJp ht0;simp only[go_sem,zE,zB,zA,zM,zS,zL,reduceCtorEq,f1,f2,f3,f4,f17,f18,f19,lt_i hlt,yQ4 ht,iNn,hzk,fits];intro _;rw[hzs.1];refine LoopC.ctr (t0.2.map (exW W)).length (λv fr st' ds=>(∃t4 us,fr 7=.box [.raw (.int .u8 (t0.1:Int)),.raw (.int .i64 (i:Int)),.sl t4 us]/\AllR IsLn (((t0.2.map (exW W)).take v).map (yGh (calJ ca) ln)) us/\own st' t4 v 2 st2/\subSt st2 st')/\((t0.2.map (exW W)).take v).any (tooN (calJ ca) ln)=false /\
    fr 1=.iv (.cptr (.agg [.sl t1 (yQi ln.1),.sl t2 (yQi ln.2)]))/\fr 2=.iv (.cptr (spI ca tw xw m))/\fr 3=.iv (.cptr (.fn f fi ca')) /\
    fr 4=.box [.raw (.int .i64 (i:Int)),.raw (.bool r)]/\fr 17=.iv (.sl t ys)/\fr 18=.iv (.raw (.int .i64 (yZo W (calJ ca) g r).length))/\fr 19=.iv (.raw (.int .i64 (q:Int)))/\fr 29=.iv (.sl t3 zs)/\fr 30=.iv (.raw (.int .i64 (t0.2.map (exW W)).length))/\fr 31=.iv (.raw (.int .i64 (v:Int)))/\ds=[]) ?_ ?_ ?_
   ·simp only[go_sem,zE,zB,zA,zM,zS,zL,reduceCtorEq];exact⟨⟨_,_,rfl,AllR.nil,own.nil _ _ _ _ _,subSt.refl _⟩,rfl,f1,f2,f3,f4,f17,f18,f19,rfl⟩
   ·rintro v fr st3 _ hv ⟨⟨t4,us,f7,hus,hown,hsub⟩,hany,f1,f2,f3,f4,f17,f18,f19,f29,f30,f31,rfl⟩;obtain⟨e,he⟩:=yQ3 hv;obtain⟨ze,hze,hez⟩:=hzs.2 v e he;obtain⟨p0,hp0,rfl⟩:=List.mem_map.1 (lMg he);have hb1:=yWx W p0.1;have hb2:=yWx W p0.2;have hb3:=hpl p0 hp0;have hprem:=λst=>xY4 gl T ca m tw xw ln _ ⟨t1,t2,rfl,e1,e2⟩ (exW W p0) ze hez ⟨by omega,by omega,by show (zZu W p0.1).length<=_;omega,by show (zZu W p0.2).length<=_;omega,by show p0.1.length<=_;omega,by show p0.2.length<=_;omega⟩ st;obtain⟨t5,t6,rfl,e5,e6⟩:=hez;simp only[go_sem,zE,zB,zA,zM,zS,zL,reduceCtorEq,f1,f2,f3,f4,f7,f17,f18,f19,f29,f30,f31,lt_i hv,yQ4 e3,iNn,hze,fits];refine (hprem _).mono ?_;rintro _ st3 ⟨⟨b1,b2,b3,b4,rfl,hz'⟩,rfl⟩;cases htoo:tooN (calJ ca) ln (exW W p0) with
    | true =>
     have hmn:mvN (calJ ca) ln i (t0.1,t0.2.map (exW W))=none:=by
      unfold mvN;rw[if_pos (List.any_eq_true.2 ⟨_,lMg he,htoo⟩)]
     rw[hmn] at ho;have hlen:=xU5 (m:=rest) hAnn;rw[<- hmn,<- hrest,hAl] at hlen;have hyc:=hy.none (k:=(pre k).length+q) (a:=[.agg [.raw (.int .u8 0),.raw (.int .i64 0),.sl ⟨true,.nil,0⟩ []],.raw (.int .i64 5)]) ⟨none,ho,rfl⟩ hiq;simp only[go_sem,zE,zB,zA,zM,zS,zL,reduceCtorEq,f1,f2,f3,f4,f17,f18,f19,f29,f30,f31,htoo,fits];refine yZc hent ((hyc.sub hsub).mono ?_);rintro _ st4 (⟨rfl,h⟩|⟨rfl,h⟩)
     ·simp only[go_sem,zE,zB,zA,zM,zS,zL,reduceCtorEq];exact .inr (hlen▸h)
     ·simp only[go_sem,zE,zB,zA,zM,zS,zL,reduceCtorEq];exact .inl h
    | false =>
     have hln:=hz' htoo;simp only[go_sem,zE,zB,zA,zM,zS,zL,reduceCtorEq,f1,f2,f3,f4,f7,f17,f18,f19,f29,f30,f31,htoo,fits,yQ1];have hul:us.length=v:=by rw[hus.1,List.length_map,List.length_take];omega
     refine yX3 hown hul hsub rfl (by simp[fits,IV.one]) (by simp only;rw[List.length_map] at hv;omega) (by rw[List.length_map] at hv;omega) λt4' st4 hown4 hsub4 _=>?_;simp only[go_sem,zE,zB,zA,zM,zS,zL,reduceCtorEq,f1,f2,f3,f4,f7,f17,f18,f19,f29,f30,f31,yQf hv (show (t0.2.map (exW W)).length<=281474976710656 by rw[List.length_map];omega)];refine⟨⟨t4',_,rfl,?_,hown4,hsub4⟩,?_⟩
     ·rw[yQ7 he,List.map_append];exact hus.snoc hln
     ·rw[yQ7 he,List.any_append,hany];simp[htoo]
   ·rintro fr st3 _ ⟨⟨t4,us,f7,hus,hown,hsub⟩,hany,f1,f2,f3,f4,f17,f18,f19,f29,f30,f31,rfl⟩;rw[lTl] at hus hany;have hmn:mvN (calJ ca) ln i (t0.1,t0.2.map (exW W))=some (t0.1,i,(t0.2.map (exW W)).map (yGh (calJ ca) ln)):=by
     unfold mvN;rw[if_neg (by rw[hany];simp)]
    have hyc:=hy.none (k:=(pre k).length+q) (a:=[.agg [.raw (.int .u8 (t0.1:Int)),.raw (.int .i64 (i:Int)),.sl t4 us],.raw (.int .i64 0)]) ⟨_,ho,by rw[hmn];exact⟨_,rfl,t4,us,rfl,hown.es,hus⟩⟩ hiq;simp only[go_sem,zE,zB,zA,zM,zS,zL,reduceCtorEq,f1,f2,f3,f4,f7,f17,f18,f19,f29,f30,f31,yQo (nLi _),fits];refine yZc hent ((hyc.sub hsub).mono ?_);rintro _ st4 (⟨rfl,h⟩|⟨rfl,h⟩)
    ·simp only[go_sem,zE,zB,zA,zM,zS,zL,reduceCtorEq,f1,f2,f3,f4,f17,f18,f19,yQf hlt (show (yZo W (calJ ca) g r).length<=281474976710656 by omega)];refine⟨h,λo ho'=>?_⟩;rw[yQ7 htt,List.map_append] at ho';rcases List.mem_append.1 ho' with h1|h1
     ·exact hnq o h1
     ·rw[List.mem_singleton.1 h1];show mvN (calJ ca) ln i (t0.1,t0.2.map (exW W))≠none;rw[hmn];simp
    ·simp only[go_sem,zE,zB,zA,zM,zS,zL,reduceCtorEq];exact .inl h
  ·rintro fr st2 _ ⟨hiq,hnq,f1,f2,f3,f4,f17,f18,f19,rfl⟩;rw[lTl] at hnq;have hpk:pre (k+1)=pre k++(yZo W (calJ ca) g r).map (mvN (calJ ca) ln i):=by
    simp only[pre];rw[yQ7 hp,List.flatMap_append,List.flatMap_cons,List.flatMap_nil,List.append_nil,hat]
   simp only[go_sem,zE,zB,zA,zM,zS,zL,reduceCtorEq,f1,f2,f3,f4,f17,f18,f19,yQo (nLi _)];rw[hpk];refine⟨by rw[lLa,List.length_map];exact hiq,λo ho=>(List.mem_append.1 ho).elim (hnn o) (hnq o)⟩
 ·rintro st1 rr ⟨hik,hnn⟩;have hall:cutO (mvsN W (calJ ca) ln)=mvsN W (calJ ca) ln:=wZu λo ho=>hnn o (by simp only[pre];rw[lTl];exact ho);have hpl:(pre (plcs ln).length).length=(mvsN W (calJ ca) ln).length:=by simp only[pre];rw[lTl];rfl
  simp only[go_sem,zE,zB,zA,zM,zS,zL,reduceCtorEq];refine yQ0 (.inl ?_);rw[hall,<- hpl];exact hik
 ·rintro e st1 rr ⟨rfl,h⟩;simp only[go_sem,zE,zB,zA,zM,zS,zL,reduceCtorEq];exact yQ0 h.symm
