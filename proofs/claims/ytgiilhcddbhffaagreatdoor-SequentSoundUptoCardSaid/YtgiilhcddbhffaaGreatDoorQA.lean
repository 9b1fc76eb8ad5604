/- Walks: maps.Keys and its iterator over a -/
import Derived.Test.YtgiilhcddbhffaaGreatDoorJP
import Derived.Test.YtgiilhcddbhffaaGreatDoorJO
import Derived.Test.YtgiilhcddbhffaaGreatDoorLA
import Derived.Test.YtgiilhcddbhffaaGreatDoorJK
import Derived.Test.YtgiilhcddbhffaaGreatDoorKF
import Derived.Test.YtgiilhcddbhffaaGreatDoorKA
import Derived.Test.YtgiilhcddbhffaaGreatDoorJI
import Derived.Test.YtgiilhcddbhffaaGreatDoorKL
import Derived.Test.YtgiilhcddbhffaaGreatDoorJW
import Derived.Lib.Bytealg
import Derived.Laws.Externs
import Derived.WalkKit
import Derived.Shelf.Abstract
import Derived.Test.YtgiilhcddbhffaaGreatDoorKB
import Derived.Test.YtgiilhcddbhffaaGreatDoorJU
set_option linter.all false
namespace Go.Proofs.Tryz
open Go Go.Iv
set_option maxRecDepth 4000
variable (gl:Nat→Option IV)
theorem wQ5 (ents:Array MapEntry):yUl ents #[]=ents.toList:=by
 unfold yUl
 rw[List.filter_eq_self]
 intro e _
 simp
theorem xUm {ents:Array MapEntry}{seen:Array Nat}{e:MapEntry}(h:e∈yUl ents seen):e∈ents.toList:=(List.mem_filter.1 h).1
theorem xWz {ents:Array MapEntry}(hn:(ents.toList.map (·.born)).Nodup)(seen:Array Nat){e:MapEntry}(h:e∈ents.toList):wQ8 ents (seen.push e.born)=keyI e.key:=by
 have hf:ents.toList.find? (fun x=>x.born == e.born)=some e:=find_born e ents.toList hn h
 unfold wQ8
 rw[Array.back?_push,Option.bind_some,hf,Option.bind_some]
theorem xWw {ents:Array MapEntry}(hn:(ents.toList.map (·.born)).Nodup){seen:Array Nat}{e:MapEntry}(h:e∈yUl ents seen):(yUl ents (seen.push e.born)).length+1=(yUl ents seen).length:=by
 unfold yUl at h ⊢
 generalize ents.toList=l at h hn
 induction l with
 | nil=>cases h
 | cons a l ih =>
  rw[List.map_cons,List.nodup_cons] at hn
  by_cases hae:a=e
  ·subst hae
   have h1:seen.contains a.born=false:=by simpa using (List.mem_filter.1 h).2
   have h2:(seen.push a.born).contains a.born=true:=by simp
   rw[List.filter_cons_of_neg (by rw[h2]; simp),List.filter_cons_of_pos (by rw[h1]; rfl),List.length_cons]
   congr 2
   apply List.filter_congr
   intro x hx
   have hne:x.born≠a.born:=fun hq=>hn.1 (hq▸List.mem_map_of_mem hx)
   simp[hne,Ne.symm hne]
  ·have hm:e∈l.filter fun e=>!seen.contains e.born:=by
    have h':=List.mem_filter.1 h
    rcases List.mem_cons.1 h'.1 with hq | hq
    ·exact absurd hq.symm hae
    ·exact List.mem_filter.2 ⟨hq,h'.2⟩
   have hel:e∈l:=(List.mem_filter.1 hm).1
   have hne:a.born≠e.born:=fun hq=>hn.1 (hq▸List.mem_map_of_mem hel)
   have hi:=ih hm hn.2
   have hc:(seen.push e.born).contains a.born=seen.contains a.born:=by
    simp[hne,Ne.symm hne]
   rw[List.filter_cons,List.filter_cons,hc]
   split
   ·rw[List.length_cons,List.length_cons,← hi]
   ·exact hi
def wWa (b:Nat):IV:=.fn (.func 268) [] [.raw (.pointer (some ⟨b,0,none⟩))]
theorem wUg (m:Nat)(st:ISt) :
  ICall prog gl 224 [.raw (.map (some m))] st (fun r st'=>∃ b,st b=none∧r=wWa b∧st'=st.put b (some (.box [.raw (.map (some m))]))):=by
 refine ICall.intro (c:=cf prog gl [1] []) func224 rfl (by show _≤4; simp) (by kernel_rfl) ?_
 simp(config:=zzC)only[go_sem,fits]
 refine fun b=>yQa fun hb=>?_
 exact yQ0 ⟨b,hb,rfl,rfl⟩
def symX (ents:Array MapEntry)(k:Nat)(a:List IV):Prop:=k<ents.toList.length∧∃ e∈ents.toList,∃ x,keyI e.key=some x∧a=[x]
structure EntOk (ents:Array MapEntry)(clock:Nat):Prop where
 key:∀ e∈ents.toList,∃ s n,keyI e.key=some (.agg [.raw (.string s),.raw (.int .i64 n)])
 born:∀ e∈ents.toList,e.born<clock
 nd:(ents.toList.map (·.born)).Nodup
theorem wV7 (m b clock:Nat)(ents:Array MapEntry)(hE:EntOk ents clock):IterC prog gl 268 [] [.raw (.pointer (some ⟨b,0,none⟩))] (symX ents) ents.toList.length
  (fun _ st=>st b=some (.box [.raw (.map (some m))])∧st m=some (.mapx ents clock)):=by
 rintro y I' S' st ⟨g,fi,ca,rfl,hfn,hent⟩ hI hy h0
 change ICall prog gl _ [.fn g fi ca,_] st _
 obtain⟨stu0,hs0,hb0,hm0⟩:=hI 0 st h0
 have hb:=hs0 _ _ hb0
 have hm:=hs0 _ _ hm0
 refine iI func268 rfl rfl (by kernel_rfl) ?_
 simp(config:=zzC)only[go_sem,fits,hb,hm]
 refine fun r=>yQa fun hr=>?_
 have hrb:b≠r:=yXy hb hr
 have hrm:m≠r:=yXy hm hr
 have hchk:((∀ e∈ents.toList,e.born<clock∧(keyI e.key).isSome=true)∧clock≤clock)=True:=eq_true ⟨fun e he=>⟨hE.born e he,by obtain⟨s,n,hk⟩:=hE.key e he; rw[hk]; rfl⟩,Nat.le_refl _⟩
 have hnd:(ents.toList.map (·.born)).Nodup=True:=eq_true hE.nd
 refine LoopC.dec ents.toList.length (fun k fr st' ds=>(∃ seen stu,(yUl ents seen).length=k∧stu r=none∧st'=stu.put r (some (.iter m clock seen clock))∧I' (ents.toList.length - k) stu)∧k≤ents.toList.length∧fr 0=.iv (.fn g fi ca)∧fr 5=.iv (.raw (.pointer (some ⟨r,0,none⟩)))∧ds=[]) ?_ ?_
 ·simp(config:=zzC)only[go_sem]
  exact⟨⟨#[],st,by rw[wQ5],hr,rfl,by rw[Nat.sub_self]; exact h0⟩,Nat.le_refl _⟩
 ·rintro k fr _ _ ⟨⟨seen,stu,hlen,hr,rfl,hIk⟩,hkl,f0,f5,rfl⟩
  obtain⟨stu0,hs0,hb0,hm0⟩:=hI _ stu hIk
  have hm:=hs0 _ _ hm0
  have hb:=hs0 _ _ hb0
  simp(config:=zzC)only[go_sem,f0,f5,ISt.put_same,yQk hrm,yQk hrb,hm,hb,hchk]
  refine⟨fun hnil=>?_,fun e he x hx=>?_⟩
  ·simp(config:=zzC)only[go_sem,f0,f5]
   refine yQb (yQc hr) (.inl ?_)
   rw[hnil] at hlen
   rw[← hlen] at hIk
   exact hIk
  ·have hem:=xUm he
   obtain⟨s,n,hk⟩:=hE.key e hem
   rw[hk] at hx
   cases hx
   have hlast:=xWz hE.nd seen hem
   rw[hk] at hlast
   have hpush:=xWw hE.nd he
   simp(config:=zzC)only[go_sem,f0,f5,ISt.put_same,yQk hrm,hm,hnd,hlast,yQ8]
   refine yXd hent ((ICallV.put gl (hy _ _ stu ⟨by omega,e,hem,_,hk,rfl⟩ hIk) hr _).mono ?_)
   rintro _ _ ⟨stu',hr',rfl,⟨rfl,h⟩ | ⟨rfl,h⟩⟩
   ·simp(config:=zzC)only[go_sem,f0,f5]
    refine⟨(yUl ents (seen.push e.born)).length,by omega,⟨seen.push e.born,stu',rfl,hr',rfl,?_⟩,by omega⟩
    rw[show ents.toList.length - (yUl ents (seen.push e.born)).length=ents.toList.length - k+1 by omega]
    exact h
   ·simp(config:=zzC)only[go_sem,f0,f5]
    exact yQb (yQc hr') (.inr h)
def vZ7 (ents:Array MapEntry)(x:IV):Prop:=(∃ e∈ents.toList,keyI e.key=some x)∧∃ s n,x=.agg [.raw (.string s),.raw (.int .i64 n)]
def xVo (ents:Array MapEntry)(st:ISt)(k:Nat)(r:IV)(st':ISt):Prop:=∃ xs:List IV,xs.length=k∧(∀ x∈xs,vZ7 ents x) ∧
 ((k=0∧∃ f e,r=.sl ⟨f,.nil,e⟩ [])∨∃ g cap cs,0<k∧st g=none∧r=.raw (.slice (some ⟨g,0,none⟩) k cap)∧st' g=some (.box cs)∧k≤cap∧cap*2≤cs.length∧cs.take (k*2)=xs.flatMap IV.cells)
theorem one_sl (a:Option Addr)(n c:Nat):IV.one (.raw (.slice a n c))=true:=rfl
theorem put3 (s:ISt)(b g:Nat)(x y z:Option IObj):((s.put b x).put g y).put b z=(s.put g y).put b z:=by
 funext c
 simp only[ISt.put_apply]
 by_cases h:c=b
 ·rw[if_pos h,if_pos h]
 ·rw[if_neg h,if_neg h,if_neg h]
theorem put4 (s:ISt)(b g h:Nat)(x y u z:Option IObj):(((s.put b x).put g y).put h u).put b z=((s.put g y).put h u).put b z:=by
 funext c
 simp only[ISt.put_apply]
 by_cases hc:c=b
 ·rw[if_pos hc,if_pos hc]
 ·rw[if_neg hc,if_neg hc,if_neg hc]
theorem xQi (g:FuncId)(caps:List IV)(ents:Array MapEntry)(hE:∀ e∈ents.toList,∃ s n,keyI e.key=some (.agg [.raw (.string s),.raw (.int .i64 n)]))(hlen:ents.toList.length≤1000000000)(st:ISt)(he:entI prog g=true)(Base:ISt→Prop)(hB:Base st)
  (hi:IterC prog gl g [] caps (symX ents) ents.toList.length (fun _=>Base)) (f:Bool) (es:Nat) :
  ICall prog gl 298 [.sl ⟨f,.nil,es⟩ [],.fn (.func g) [] caps] st (fun r st'=>xVo ents st ents.toList.length r st'∧subSt st st'):=by
 refine ICall.intro (c:=cf prog gl [2,11] []) func298 rfl (by show _≤13; simp) (by kernel_rfl) ?_
 simp(config:=zzC)only[go_sem,fits]
 refine fun b=>yQa fun hb=>?_
 refine RangeC.intro (symX ents) ents.toList.length (fun k st'=>∃ cell s1,s1 b=none∧st'=s1.put b (some (.box [cell]))∧xVo ents st k cell s1∧subSt st s1) (fun _ _=>False) he ?_ ?_ ?_ ?_ ?_ (fun _ _ _ h=>h.elim)
 ·rintro k a ⟨_,e,_,x,_,rfl⟩
  rfl
 ·exact⟨_,st,hb,rfl,⟨[],rfl,(fun x hx=>by cases hx),.inl ⟨rfl,f,es,rfl⟩⟩,subSt.refl _⟩
 ·rintro k a _ ⟨hkn,e,hem,x,hx,rfl⟩ ⟨cell,s1,hbn,rfl,⟨xs,hxl,hxs,hcell⟩,hsub⟩
  obtain⟨s,n,hk⟩:=hE e hem
  rw[hk] at hx
  cases hx
  rcases hcell with⟨rfl,f,es,rfl⟩ | ⟨g2,cap,cs,hk0,hgn,rfl,hg,hkc,hcc,htk⟩
  ·simp(config:=zzC)only[go_sem,ISt.put_same,fits,show yQl 1 [(0,Operand.tmp 9)]=true from rfl]
   refine fun g cap=>yQa fun⟨hg,hc⟩=>?_
   have hgb:g≠b:=by rintro rfl; rw[ISt.put_same] at hg; cases hg
   rw[yQk hgb] at hg
   simp(config:=zzC)only[go_sem,ISt.put_same,yQk hgb.symm,fits,one_sl]
   refine⟨_,_,?_,put3 ..,⟨[.agg [.raw (.string s),.raw (.int .i64 n)]],rfl,?_,.inr ⟨g,cap,_,Nat.zero_lt_one,?_,rfl,ISt.put_same ..,hc,?_,?_⟩⟩,hsub.trans (yQc hg)⟩
   ·rw[yQk hgb.symm]; exact hbn
   ·intro x hx
    rw[List.mem_singleton.1 hx]
    exact⟨⟨e,hem,hk⟩,_,_,rfl⟩
   ·cases hq:st g with
    | none=>rfl
    | some o=>have:=hsub _ _ hq; rw[hg] at this; cases this
   ·simp[IV.cells]; omega
   ·simp[IV.cells]
  ·have hgb:g2≠b:=yXy hg hbn
   simp(config:=zzC)only[go_sem,ISt.put_same,yQk hgb,fits,show yQl 1 [(0,Operand.tmp 9)]=true from rfl]
   refine yG8 _ _ _ (cs:=cs) (by rw[yQk hgb]; exact hg) (by simp[fits,IV.one,IV.cells]) ⟨by show (k+1)*24≤_; omega,by show k+1≤_; omega⟩ ⟨hkc,by show cap*2≤_; omega⟩ (by simp[IV.cells]) ?_
   rintro g cap' cs' hgn' hc1 hc2 htk'
   have hgb':g≠b:=by
    rcases hgn' with rfl | h
    ·exact hgb
    ·rintro rfl; rw[ISt.put_same] at h; cases h
   have hs1g:g=g2∨s1 g=none:=hgn'.imp id fun h=>by rwa [yQk hgb'] at h
   have hstg:st g=none:=by
    rcases hs1g with rfl | h
    ·exact hgn
    ·cases hq:st g with
     | none=>rfl
     | some o=>have:=hsub _ _ hq; rw[h] at this; cases this
   simp(config:=zzC)only[go_sem,ISt.put_same,yQk hgb.symm,yQk hgb'.symm,fits,one_sl]
   refine⟨_,_,?_,put4 ..,⟨xs++[.agg [.raw (.string s),.raw (.int .i64 n)]],by simp[hxl],?_,.inr ⟨g,cap',cs',Nat.succ_pos _,hstg,rfl,ISt.put_same ..,hc1,hc2,?_⟩⟩,fun c o hc=>?_⟩
   ·rw[yQk hgb'.symm,yQk hgb.symm]; exact hbn
   ·intro x hx
    rcases List.mem_append.1 hx with hx | hx
    ·exact hxs x hx
    ·rw[List.mem_singleton.1 hx]
     exact⟨⟨e,hem,hk⟩,_,_,rfl⟩
   ·have:cs'.take ((k+1)*2)=cs.take (k*2)++[.raw (.string s),.raw (.int .i64 n)]:=by simpa[IV.cells] using htk'
    rw[this,htk]
    simp[IV.cells]
   ·rw[yQk (by rintro rfl; rw[hstg] at hc; cases hc),yQk (by rintro rfl; rw[hgn] at hc; cases hc)]
    exact hsub _ _ hc
 ·rintro y I' S' st' hfn hI hy h0
  refine hi y I' S' st' hfn (fun k stu hk=>?_) hy h0
  obtain⟨stu0,hs,cell,s1,hbn,rfl,_,hsub⟩:=hI k stu hk
  exact⟨st,fun c o hc=>hs _ _ (yQc hbn _ _ (hsub _ _ hc)),hB⟩
 ·rintro _ r ⟨cell,s1,hbn,rfl,hsy,hsub⟩
  have hci:ivOf (.iv cell)=some cell:=by
   obtain⟨xs,_,_,⟨_,f,e,rfl⟩ | ⟨g,cap,cs,_,_,rfl,_⟩⟩:=hsy<;>rfl
  have hc1:fits false 1 cell=true:=by
   obtain⟨xs,_,_,⟨_,f,e,rfl⟩ | ⟨g,cap,cs,_,_,rfl,_⟩⟩:=hsy<;>rfl
  simp(config:=zzC)only[go_sem,ISt.put_same,fits,hci,hc1]
  refine yQb (st':=s1) (yQc hbn) ⟨?_,hsub⟩
  exact hsy
end Go.Proofs.Tryz
namespace Go.Iv
open Go
structure Sq where
 l:List Fm
 r:List Fm
inductive Tr where
 | mk (rule:Nat) (s:Sq) (main:Fm) (term:Tm) (name:ByteArray) (sub:List Tr)
def IsSq (s:Sq)(x:IV):Prop:=∃ t xs t' ys,x=.agg [.sl t xs,.sl t' ys]∧okEs t 4∧IsFms s.l xs∧okEs t' 4∧IsFms s.r ys
def IsSqs:List Sq→List IV→Prop
 | [],xs=>xs=[]
 | a::aL,xs=>∃ y ys,xs=y::ys∧IsSq a y∧IsSqs aL ys
mutual
def IsTr:Tr→IV→Prop
 | .mk rule s f u n sub,x=>∃ tl xl tr xr op fn ta xa tb xb v un tu xu ts xs,x=.agg [.raw (.int .u8 rule),.sl tl xl,.sl tr xr,.raw (.int .u8 op),.raw (.string fn),.sl ta xa,.sl tb xb,.raw (.bool v),.raw (.string un),.sl tu xu,.raw (.string n),.sl ts xs] ∧
  rule<256∧okEs tl 4∧IsFms s.l xl∧okEs tr 4∧IsFms s.r xr∧IsFm f (.agg [.raw (.int .u8 op),.raw (.string fn),.sl ta xa,.sl tb xb])∧IsTm u (.agg [.raw (.bool v),.raw (.string un),.sl tu xu])∧okEs ts 12∧IsTrs sub xs
def IsTrs:List Tr→List IV→Prop
 | [],xs=>xs=[]
 | a::aL,xs=>∃ y ys,xs=y::ys∧IsTr a y∧IsTrs aL ys
end
theorem IsTr.mk {rule:Nat}{s:Sq}{f:Fm}{u:Tm}{n:ByteArray}{sub:List Tr}{x:IV}(h:IsTr (.mk rule s f u n sub) x):∃ tl xl tr xr op fn ta xa tb xb v un tu xu ts xs,x=.agg [.raw (.int .u8 rule),.sl tl xl,.sl tr xr,.raw (.int .u8 op),.raw (.string fn),.sl ta xa,.sl tb xb,.raw (.bool v),.raw (.string un),.sl tu xu,.raw (.string n),.sl ts xs] ∧
  rule<256∧okEs tl 4∧IsFms s.l xl∧okEs tr 4∧IsFms s.r xr∧IsFm f (.agg [.raw (.int .u8 op),.raw (.string fn),.sl ta xa,.sl tb xb])∧IsTm u (.agg [.raw (.bool v),.raw (.string un),.sl tu xu])∧okEs ts 12∧IsTrs sub xs:=by
 simpa only[IsTr] using h
theorem IsSqs.len:∀ {aL:List Sq}{xs:List IV},IsSqs aL xs→xs.length=aL.length
 | [],xs,h=>by simp only[IsSqs] at h; subst h; rfl
 | a::aL,xs,h=>by
  simp only[IsSqs] at h
  obtain⟨y,ys,rfl,_,h⟩:=h
  simp[IsSqs.len h]
theorem IsSqs.get:∀ {aL:List Sq}{xs:List IV}{k:Nat}{a:Sq},IsSqs aL xs→aL[k]?=some a→∃ x,xs[k]?=some x∧IsSq a x
 | [],xs,k,a,h,hk=>by simp at hk
 | b::aL,xs,k,a,h,hk=>by
  simp only[IsSqs] at h
  obtain⟨y,ys,rfl,hy,h⟩:=h
  cases k with
  | zero=>simp at hk; subst hk; exact⟨y,rfl,hy⟩
  | succ k=>simpa using IsSqs.get h (by simpa using hk)
theorem IsTrs.len:∀ {aL:List Tr}{xs:List IV},IsTrs aL xs→xs.length=aL.length
 | [],xs,h=>by simp only[IsTrs] at h; subst h; rfl
 | a::aL,xs,h=>by
  simp only[IsTrs] at h
  obtain⟨y,ys,rfl,_,h⟩:=h
  simp[IsTrs.len h]
theorem IsTrs.get:∀ {aL:List Tr}{xs:List IV}{k:Nat}{a:Tr},IsTrs aL xs→aL[k]?=some a→∃ x,xs[k]?=some x∧IsTr a x
 | [],xs,k,a,h,hk=>by simp at hk
 | b::aL,xs,k,a,h,hk=>by
  simp only[IsTrs] at h
  obtain⟨y,ys,rfl,hy,h⟩:=h
  cases k with
  | zero=>simp at hk; subst hk; exact⟨y,rfl,hy⟩
  | succ k=>simpa using IsTrs.get h (by simpa using hk)
mutual
def Tr.steps:Tr→Nat
 | .mk _ _ _ _ _ sub=>1+yQp sub
def yQp:List Tr→Nat
 | []=>0
 | a::l=>a.steps+yQp l
end
mutual
def Tr.height:Tr→Nat
 | .mk _ _ _ _ _ sub=>1+yZm sub
def yZm:List Tr→Nat
 | []=>0
 | a::l=>max a.height (yZm l)
end
mutual
def Tr.cuts:Tr→Nat
 | .mk rule _ _ _ _ sub=>(if rule=17 then 1 else 0)+yYk sub
def yYk:List Tr→Nat
 | []=>0
 | a::l=>a.cuts+yYk l
end
theorem yKy:∀ l m:List Tr,yQp (l++m)=yQp l+yQp m
 | [],m=>by simp[yQp]
 | a::l,m=>by simp only[List.cons_append,yQp,yKy l m]; omega
theorem Tr.height_le_steps:∀ t:Tr,t.height≤t.steps:=by
 have key:∀ k:Nat,(∀ t:Tr,SizeOf.sizeOf t<k→t.height≤t.steps):=fun k=>by
  induction k with
  | zero=>intro t h; omega
  | succ k ih =>
   rintro⟨rule,s,f,u,n,sub⟩ h
   have:∀ l:List Tr,SizeOf.sizeOf l<k+1→yZm l≤yQp l:=fun l=>by
    induction l with
    | nil=>intro _; simp[yZm,yQp]
    | cons a l ihl =>
     intro hl
     simp only[List.cons.sizeOf_spec] at hl
     have h1:=ih a (by omega)
     have h2:=ihl (by omega)
     simp only[yZm,yQp]; omega
   simp only[Tr.mk.sizeOf_spec] at h
   have:=this sub (by omega)
   simp only[Tr.height,Tr.steps]; omega
 exact fun t=>key _ t (Nat.lt_succ_self _)
mutual
def Tr.walk:List Nat→Tr→List (List Nat×Tr)
 | p,t@(.mk _ _ _ _ _ sub)=>(p,t)::yZc p 0 sub
def yZc:List Nat→Nat→List Tr→List (List Nat×Tr)
 | _,_,[]=>[]
 | p,i,a::l=>a.walk (p++[i])++yZc p (i+1) l
end
def yZb (e:Tr→Nat):List (List Nat×Tr)→List Nat×Nat
 | []=>([],0)
 | (p,t)::l=>if e t=0 then yZb e l else (p,e t)
theorem yJw (e:Tr→Nat):∀ l m,yZb e (l++m)=if (yZb e l).2=0 then yZb e m else yZb e l
 | [],m=>by simp[yZb]
 | (p,t)::l,m=>by
  have ih:=yJw e l m
  by_cases h:e t=0
  ·simp only[List.cons_append,yZb,h,if_true,ih]
  ·simp[yZb,h]
def Fm.op:Fm→Nat
 | .mk op _ _ _=>op
def Fm.subs:Fm→List Fm
 | .mk _ _ _ sub=>sub
def Fm.nm:Fm→ByteArray
 | .mk _ n _ _=>n
def Tr.sq:Tr→Sq
 | .mk _ s _ _ _ _=>s
def Sq.plus (s m:Sq):Sq:=⟨s.l++m.l,s.r++m.r⟩
end Go.Iv
namespace Go.Proofs.Tryz
open Go Go.Iv
set_option maxRecDepth 4000
variable (gl:Nat→Option IV)
theorem zKj (v w:Bool)(n m:ByteArray)(us ws:List Tm)(x y:IV)(hx:IsTm (.mk v n us) x)(hy:IsTm (.mk w m ws) y)
  (IH:∀ (t t':Tag) (xs ys:List IV),okEs t 3→okEs t' 3→IsTms us xs→IsTms ws ys→∀ st,ICall prog gl 155 [.sl t xs,.sl t' ys] st (fun x st'=>x=.raw (.bool (eqB us ws))∧st'=st)) (st:ISt) :
  ICall prog gl 108 [x,y] st (fun r st'=>r=.raw (.bool (eqB (Tm.mk v n us) (.mk w m ws)))∧st'=st):=by
 obtain⟨tx,cx,rfl,htx,hcx⟩:=hx.mk
 obtain⟨ty,cy,rfl,hty,hcy⟩:=hy.mk
 refine iI func108 rfl rfl (by kernel_rfl) ?_
 by_cases hv:v=w
 ·subst hv
  by_cases hnm:n=m
  ·subst hnm
   simp(config:=zzC)only[go_sem,decide_true]
   refine (IH tx ty cx cy htx hty hcx hcy _).mono ?_
   rintro _ _ ⟨rfl,rfl⟩
   simp(config:=zzC)only[go_sem]
   refine yQ0 ⟨?_,rfl⟩
   by_cases hc:us=ws
   ·subst hc; rw[yZ7.2 rfl,yZ7.2 rfl]
   ·rw[yQn.2 hc,yQn.2 (by rintro⟨⟩; exact hc rfl)]
  ·simp(config:=zzC)only[go_sem,dEf hnm,decide_true]
   exact yQ0 ⟨by rw[yQn.2 (by rintro⟨⟩; exact hnm rfl)],rfl⟩
 ·simp(config:=zzC)only[go_sem,beq_eq_false_iff_ne.2 hv]
  exact yQ0 ⟨by rw[yQn.2 (by rintro⟨⟩; exact hv rfl)],rfl⟩
theorem zZ2 (t t':Tag)(us ws:List Tm)(xs ys:List IV)(ht:okEs t 3)(ht':okEs t' 3)(ha:IsTms us xs)(hb:IsTms ws ys)(st:ISt) :
  ICall prog gl 155 [.sl t xs,.sl t' ys] st (fun x st'=>x=.raw (.bool (eqB us ws))∧st'=st):=by
 refine iI func155 rfl rfl (by kernel_rfl) ?_
 simp(config:=zzC)only[go_sem,ha.len,hb.len]
 intro hla hlb
 refine yX9 (fun h=>?_) (fun h=>?_)
 ·have hne:us≠ws:=by rintro rfl; simp at h
  simp(config:=zzC)only[go_sem]
  exact yQ0 ⟨by rw[yQn.2 hne],rfl⟩
 have hlen:us.length=ws.length:=by simp at h; omega
 refine LoopC.ctr us.length (fun k fr st' ds=>us.take k=ws.take k∧fr 0=.iv (.sl t xs)∧fr 1=.iv (.sl t' ys)∧fr 5=.iv (.raw (.int .i64 k))∧st'=st∧ds=[]) ?_ ?_ ?_
 ·simp(config:=zzC)only[go_sem]; rfl
 ·rintro k fr st' ds hlt ⟨hn,h0,h1,h5,rfl,rfl⟩
  obtain⟨a,hka⟩:=yQ5 hlt
  obtain⟨b,hkb⟩:=yQ5 (hlen▸hlt)
  obtain⟨x,hkx,hx⟩:=ha.get hka
  obtain⟨y,hky,hy⟩:=hb.get hkb
  obtain⟨v,n,cs⟩:=a
  obtain⟨w,m,ds⟩:=b
  have hx0:=hx
  have hy0:=hy
  obtain⟨tx,cx,rfl,htx,hcx⟩:=hx.mk
  obtain⟨ty,cy,rfl,hty,hcy⟩:=hy.mk
  have hcall:=zKj gl v w n m cs ds _ _ hx0 hy0 (fun t1 t2 x1 y1 q1 q2 q3 q4 st1=>zZ2 t1 t2 cs ds x1 y1 q1 q2 q3 q4 st1) st'
  simp(config:=zzC)only[go_sem,h0,h1,h5,ha.len,hb.len,lt_i hlt,yQf hlt (show us.length≤281474976710656 by omega),yQ1 ht,yQ1 ht',iNn,hkx,hky,fits]
  intro _
  refine hcall.mono ?_
  rintro _ _ ⟨rfl,rfl⟩
  by_cases hc:Tm.mk v n cs=.mk w m ds
  ·simp(config:=zzC)only[go_sem,h0,h1,h5,yQf hlt (show us.length≤281474976710656 by omega),yZ7.2 hc]
   rw[yQ6 hka,yQ6 hkb,hn,hc]
  ·have hne:us≠ws:=by
    rintro rfl
    rw[hka] at hkb
    exact hc (Option.some.inj hkb)
   simp(config:=zzC)only[go_sem,h0,h1,h5,yQn.2 hc]
   exact yQ0 ⟨by rw[yQn.2 hne],rfl⟩
 ·rintro fr st' ds ⟨hn,h0,h1,h5,rfl,rfl⟩
  simp(config:=zzC)only[go_sem,h0,h1,h5,ha.len,yQt (nLi _)]
  intro _
  have he:us=ws:=by rw[lTl] at hn; rw[hn,hlen,lTl]
  exact yQ0 ⟨by rw[yZ7.2 he],rfl⟩
termination_by SizeOf.sizeOf us
decreasing_by exact xW8 (lMg hka)
def kSF (f:Fm):Prop:=∀ (g:Fm) (x y:IV) (_:IsFm f x) (_:IsFm g y) (st:ISt),ICall prog gl 106 [x,y] st (fun r st'=>r=.raw (.bool (eqB f g))∧st'=st)
theorem yYe (us ws:List Fm)(IH:∀ a∈us,kSF gl a)(t t':Tag)(xs ys:List IV)(ht:okEs t 4)(ht':okEs t' 4)(ha:IsFms us xs)(hb:IsFms ws ys)(st:ISt) :
  ICall prog gl 88 [.sl t xs,.sl t' ys] st (fun x st'=>x=.raw (.bool (eqB us ws))∧st'=st):=by
 refine iI func88 rfl rfl (by kernel_rfl) ?_
 simp(config:=zzC)only[go_sem,ha.len,hb.len]
 intro hla hlb
 refine yX9 (fun h=>?_) (fun h=>?_)
 ·have hne:us≠ws:=by rintro rfl; simp at h
  simp(config:=zzC)only[go_sem]
  exact yQ0 ⟨by rw[yQn.2 hne],rfl⟩
 have hlen:us.length=ws.length:=by simp at h; omega
 refine LoopC.ctr us.length (fun k fr st' ds=>us.take k=ws.take k∧fr 0=.iv (.sl t xs)∧fr 1=.iv (.sl t' ys)∧fr 5=.iv (.raw (.int .i64 k))∧st'=st∧ds=[]) ?_ ?_ ?_
 ·simp(config:=zzC)only[go_sem]; rfl
 ·rintro k fr st' ds hlt ⟨hn,h0,h1,h5,rfl,rfl⟩
  obtain⟨a,hka⟩:=yQ5 hlt
  obtain⟨b,hkb⟩:=yQ5 (hlen▸hlt)
  obtain⟨x,hkx,hx⟩:=ha.get hka
  obtain⟨y,hky,hy⟩:=hb.get hkb
  have hcall:=IH a (lMg hka) b x y hx hy st'
  obtain⟨o,n,cs,sub⟩:=a
  obtain⟨o',m,ds,sub'⟩:=b
  obtain⟨tx,cx,sx,dx,rfl,_⟩:=hx.mk
  obtain⟨ty,cy,sy,dy,rfl,_⟩:=hy.mk
  simp(config:=zzC)only[go_sem,h0,h1,h5,ha.len,hb.len,lt_i hlt,yQf hlt (show us.length≤281474976710656 by omega),yQ1 ht,yQ1 ht',iNn,hkx,hky,fits]
  intro _
  refine hcall.mono ?_
  rintro _ _ ⟨rfl,rfl⟩
  by_cases hc:Fm.mk o n cs sub=.mk o' m ds sub'
  ·simp(config:=zzC)only[go_sem,h0,h1,h5,yQf hlt (show us.length≤281474976710656 by omega),yZ7.2 hc]
   rw[yQ6 hka,yQ6 hkb,hn,hc]
  ·have hne:us≠ws:=by
    rintro rfl
    rw[hka] at hkb
    exact hc (Option.some.inj hkb)
   simp(config:=zzC)only[go_sem,h0,h1,h5,yQn.2 hc]
   exact yQ0 ⟨by rw[yQn.2 hne],rfl⟩
 ·rintro fr st' ds ⟨hn,h0,h1,h5,rfl,rfl⟩
  simp(config:=zzC)only[go_sem,h0,h1,h5,ha.len,yQt (nLi _)]
  intro _
  have he:us=ws:=by rw[lTl] at hn; rw[hn,hlen,lTl]
  exact yQ0 ⟨by rw[yZ7.2 he],rfl⟩
theorem zKk (o:Nat)(n:ByteArray)(us:List Tm)(sub:List Fm)(IH:∀ a∈sub,kSF gl a):kSF gl (.mk o n us sub):=by
 intro g x y hx hy st
 obtain⟨o',m,ws,sub'⟩:=g
 obtain⟨tx,cx,sx,dx,rfl,ho,htx,hcx,hsx,hdx⟩:=hx.mk
 obtain⟨ty,cy,sy,dy,rfl,ho',hty,hcy,hsy,hdy⟩:=hy.mk
 have hcall:=yYe gl sub sub' IH sx sy dx dy hsx hsy hdx hdy
 refine iI func106 rfl rfl (by kernel_rfl) ?_
 by_cases hv:o=o'
 ·subst hv
  by_cases hnm:n=m
  ·subst hnm
   simp(config:=zzC)only[go_sem,decide_true]
   refine (zZ2 gl tx ty us ws cx cy htx hty hcx hcy _).mono ?_
   rintro _ _ ⟨rfl,rfl⟩
   by_cases hc:us=ws
   ·subst hc
    simp(config:=zzC)only[go_sem,yZ7.2 rfl]
    refine (hcall _).mono ?_
    rintro _ _ ⟨rfl,rfl⟩
    simp(config:=zzC)only[go_sem]
    refine yQ0 ⟨?_,rfl⟩
    by_cases hd:sub=sub'
    ·subst hd; rw[yZ7.2 rfl,yZ7.2 rfl]
    ·rw[yQn.2 hd,yQn.2 (by rintro⟨⟩; exact hd rfl)]
   ·simp(config:=zzC)only[go_sem,yQn.2 hc]
    exact yQ0 ⟨by rw[yQn.2 (by rintro⟨⟩; exact hc rfl)],rfl⟩
  ·simp(config:=zzC)only[go_sem,dEf hnm,decide_true]
   exact yQ0 ⟨by rw[yQn.2 (by rintro⟨⟩; exact hnm rfl)],rfl⟩
 ·have hv':decide ((o:Int)=(o':Int))=false:=dEf (by omega)
  simp(config:=zzC)only[go_sem,hv']
  exact yQ0 ⟨by rw[yQn.2 (by rintro⟨⟩; exact hv rfl)],rfl⟩
theorem yUm:∀ (k:Nat)(f:Fm),SizeOf.sizeOf f<k→kSF gl f
 | 0,f,h=>by omega
 | k+1,.mk o n us sub,h=>zKk gl o n us sub (fun a ha=>yUm k a (by
   have:=lSm ha
   simp only[Fm.mk.sizeOf_spec] at h
   omega))
theorem xX4 (f:Fm):kSF gl f:=yUm gl _ f (Nat.lt_succ_self _)
theorem zZ3 (us ws:List Fm)(t t':Tag)(xs ys:List IV)(ht:okEs t 4)(ht':okEs t' 4)(ha:IsFms us xs)(hb:IsFms ws ys)(st:ISt) :
  ICall prog gl 88 [.sl t xs,.sl t' ys] st (fun x st'=>x=.raw (.bool (eqB us ws))∧st'=st):=yYe gl us ws (fun a _=>xX4 gl a) t t' xs ys ht ht' ha hb st
theorem zVm (a b:Sq)(x y:IV)(hx:IsSq a x)(hy:IsSq b y)(st:ISt):ICall prog gl 37 [x,y] st (fun r st'=>r=.raw (.bool (eqB a b))∧st'=st):=by
 obtain⟨l,r⟩:=a
 obtain⟨l',r'⟩:=b
 obtain⟨t1,x1,t2,x2,rfl,h1,h2,h3,h4⟩:=hx
 obtain⟨t3,x3,t4,x4,rfl,h5,h6,h7,h8⟩:=hy
 refine iI func37 rfl rfl (by kernel_rfl) ?_
 simp(config:=zzC)only[go_sem]
 refine (zZ3 gl l l' t1 t3 x1 x3 h1 h5 h2 h6 _).mono ?_
 rintro _ _ ⟨rfl,rfl⟩
 by_cases hc:l=l'
 ·subst hc
  simp(config:=zzC)only[go_sem,yZ7.2 rfl]
  refine (zZ3 gl r r' t2 t4 x2 x4 h3 h7 h4 h8 _).mono ?_
  rintro _ _ ⟨rfl,rfl⟩
  simp(config:=zzC)only[go_sem]
  refine yQ0 ⟨?_,rfl⟩
  by_cases hd:r=r'
  ·subst hd; rw[yZ7.2 rfl,yZ7.2 rfl]
  ·rw[yQn.2 hd,yQn.2 (by rintro⟨⟩; exact hd rfl)]
 ·simp(config:=zzC)only[go_sem,yQn.2 hc]
  exact yQ0 ⟨by rw[yQn.2 (by rintro⟨⟩; exact hc rfl)],rfl⟩
theorem IsFmD.aggs {f:Fm}{r:IV}(h:IsFmD f r):∃ o n t x t' x',r=.agg [.raw (.int .u8 o),.raw (.string n),.sl t x,.sl t' x']:=by
 obtain⟨o,n,us,sub⟩:=f
 obtain⟨t,xs,t',ys,rfl,_⟩:=h.mk
 exact⟨_,_,_,_,_,_,rfl⟩
end Go.Proofs.Tryz
namespace Go.Iv
open Go
section
variable {P:Program}{gl:Nat→Option IV}{f:FuncId}{args args':List IV}{st:ISt}
theorem xUl {X X':WS}{g:Nat}{o:IObj}(h:Ext X X')(h0:X.st g=none)(h1:X'.st g=some o):X.w.heap.size≤g:=by
 by_cases hlt:g<X.w.heap.size
 ·have:=h.dom g hlt h0
  rw[h1] at this; cases this
 ·omega
theorem zZj {X':WS}{S:ISt}{g:Nat}{cs:List IV}(h0:S g=none)(hst':X'.st=S.put g (some (.box cs))):LendOk X'.st (ISt.put (fun _=>none) g (some (.box cs))) S:=by
 refine⟨fun b o hb=>?_,fun b o hb=>?_,fun b cs' hb=>?_⟩
 ·rw[ISt.put_apply] at hb
  split at hb
  ·rename_i hbg; subst hbg; cases hb; rw[hst']; exact ISt.put_same ..
  ·cases hb
 ·rw[hst',ISt.put_apply]
  split
  ·rename_i hbg; rw[hbg,h0] at hb; cases hb
  ·exact hb
 ·rw[ISt.put_apply] at hb
  split at hb
  ·rename_i hbg; rw[hbg]; exact h0
  ·cases hb
theorem xUk {C:Cx}{X':WS}{S:ISt}{g cap es:Nat}{cs zs:List IV}(h2:Good C X')(h0:S g=none)(hst':X'.st=S.put g (some (.box cs)))(hB:C.B≤g)(hn:zs.length≤140737488355328)(hcap:zs.length≤cap)(hroom:cap*es≤cs.length)
  (htk:cs.take (zs.length*es)=zs.flatMap IV.cells) (hz:∀ z∈zs,z.cells.length=es):C.v (X'.lendS (ISt.put (fun _=>none) g (some (.box cs))) S) (.slice (some ⟨g,0,none⟩) zs.length cap) (.sl ⟨true,.app g,es⟩ zs):=by
 have hgs:X'.st g=some (.box cs):=by rw[hst']; exact ISt.put_same ..
 have hex:=h2.lendS_ext (zZj h0 hst')
 have hs1:(ISt.put (fun _=>none) g (some (.box cs))) g=some (.box cs):=ISt.put_same ..
 obtain⟨hL0,c,T,hh,hvl⟩:=h2.ok g _ hgs
 have hcl:c.toList.length=cs.length:=hvl.1
 have hflat:(zs.flatMap IV.cells).length=zs.length*es:=yQq zs hz
 have hle:zs.length*es≤cs.length:=Nat.le_trans (Nat.mul_le_mul_right _ hcap) hroom
 refine V.sl (some ⟨g,0,none⟩) cap ⟨true,.app g,es⟩ zs T (c.toList.take (zs.length*es)) rfl hn hcap hz ?_ (fun g' hg'=>?_) (fun _ ad had=>?_) (fun _=>⟨_,rfl,rfl,?_,fun i r hr=>?_⟩) fun i r z hr hz=>?_
 ·rw[List.length_take]; simp only; omega
 ·cases hg'
  refine⟨T,c.size,?_,?_⟩
  ·simp[shq,WS.lendS,hh]
  ·have:c.size=c.toList.length:=by simp
   rw[this,hcl]; exact hroom
 ·cases had
  refine⟨hB,by simp,?_⟩
  simp[ety,shq,WS.lendS,hh]
 ·show 0+(c.toList.take (zs.length*es)).length≤(X'.lendS _ S).L g
  rw[zY9 hs1,List.length_take]; omega
 ·show X'.w.cell? _=_
  rw[Nat.zero_add,yZ3 hh]
  rw[List.getElem?_take] at hr
  split at hr
  ·simpa using hr
  ·cases hr
 ·rw[← htk,List.getElem?_take] at hz
  rw[List.getElem?_take] at hr
  split at hr
  ·rename_i hi
   rw[if_pos hi] at hz
   exact hex.v (hvl.2 i r z hr hz)
  ·cases hr
theorem ICall.fixN {K:IV→ISt→Prop}(h:ICall P gl f args st (fun y st'=>K y st'∨∃ g n cap cs es zs v,st g=none∧y=.tup [.raw (.slice (some ⟨g,0,none⟩) n cap),.raw v]∧st'=st.put g (some (.box cs)) ∧
   zs.length=n∧n≤140737488355328∧n≤cap∧cap*es≤cs.length∧cs.take (n*es)=zs.flatMap IV.cells∧(∀ z∈zs,z.cells.length=es)∧K (.tup [.sl ⟨true,.app g,es⟩ zs,.raw v]) st)) :
  ICall P gl f args st K:=by
 intro B X rs hg hst hv
 subst hst
 refine (h B X rs hg rfl hv).mono ?_
 rintro e w' ⟨v,rfl,X',y,rfl,h2,h3,h4,hK | ⟨g,n,cap,cs,es,zs,u,h0,rfl,hst',rfl,hn,hcap,hroom,htk,hz,hK⟩⟩
 ·exact⟨v,rfl,X',y,rfl,h2,h3,h4,hK⟩
 have hgn:=xUl h3 h0 (by rw[hst']; exact ISt.put_same ..)
 have hk:=zZj h0 hst'
 refine⟨v,rfl,X'.lendS _ X.st,_,rfl,h2.lendS hk,h3.trans (h2.lendS_ext hk),?_,hK⟩
 obtain⟨rr,rfl,hr⟩:=V.tup_inv h4
 refine .tup rr _ (by rw[hr.1]; rfl) fun i r x h1 h2x=>?_
 match i,h1,h2x with
 | 1,h1,h2x =>
  cases h2x
  exact (h2.lendS_ext hk).v (hr.2 1 r _ h1 rfl)
 | 0,h1,h2x =>
  cases h2x
  obtain rfl:=V.raw_inv (hr.2 0 r _ h1 rfl)
  exact xUk h2 h0 hst' (Nat.le_trans hg.B hgn) hn hcap hroom htk hz
theorem ICall.fixL {K:IV→ISt→Prop}(h:ICall P gl f args st (fun y st'=>K y st'∨∃ g es zs,st g=none∧y=.raw (.slice (some ⟨g,0,none⟩) zs.length zs.length)∧st'=st.put g (some (.box (zs.flatMap IV.cells))) ∧
   zs.length≤140737488355328∧(∀ z∈zs,z.cells.length=es)∧K (.sl ⟨true,.app g,es⟩ zs) st)):ICall P gl f args st K:=by
 intro B X rs hg hst hv
 subst hst
 refine (h B X rs hg rfl hv).mono ?_
 rintro e w' ⟨v,rfl,X',y,rfl,h2,h3,h4,hK | ⟨g,es,zs,h0,rfl,hst',hn,hz,hK⟩⟩
 ·exact⟨v,rfl,X',y,rfl,h2,h3,h4,hK⟩
 have hgn:=xUl h3 h0 (by rw[hst']; exact ISt.put_same ..)
 have hk:=zZj h0 hst'
 have hfl:=yQq zs hz
 obtain rfl:=V.raw_inv h4
 exact⟨_,rfl,X'.lendS _ X.st,_,rfl,h2.lendS hk,h3.trans (h2.lendS_ext hk),xUk h2 h0 hst' (Nat.le_trans hg.B hgn) hn (Nat.le_refl _) (by rw[hfl]; exact Nat.le_refl _) (by rw[← hfl,lTl]) hz,hK⟩
end
end Go.Iv
namespace Go.Proofs.Tryz
open Go Go.Iv
set_option maxRecDepth 4000
variable (gl:Nat→Option IV)
@[go_sem] theorem kQs:((#[]:Array UInt8).size≤281474976710656)=True:=eq_true (Nat.zero_le _)
theorem wY4 (k:Nat):IntKind.u8.wrap ((k:Nat):Int)=((UInt8.ofNat k).toNat:Int):=by
 simp[IntKind.wrap,IntKind.bits,IntKind.signed]
def keyB (mk:UInt8)(n:Nat)(s:ByteArray):ByteArray:=⟨#[mk,UInt8.ofNat (48+n % 10)]⟩++s
theorem wK1 (mk:UInt8)(n:Nat)(hn:n≤1000000000)(s:ByteArray)(hs:s.size≤1000000000)(st:ISt) :
  ICall prog gl 123 [.raw (.int .u8 (mk.toNat:Int)),.raw (.string s),.raw (.int .i64 (n:Int))] st (fun r st'=>r=.raw (.string (keyB mk n s))∧st'=st):=by
 refine iI func123 rfl rfl (by kernel_rfl) ?_
 have hcv:=fun n:Int=>zUy prog 3 5 vXn vXm .i64 n
 have htm:(n:Int).tmod 10=((n % 10:Nat):Int):=by rw[Int.tmod_eq_emod_of_nonneg (by omega)]; rfl
 have hwr:IntKind.i64.wrap (48+((n % 10:Nat):Int))=((48+n % 10:Nat):Int):=by rw[w64]<;>omega
 have hby:yYp [.raw (.int .u8 (mk.toNat:Int)),.raw (.int .u8 ((UInt8.ofNat (48+n % 10)).toNat:Int))]=some [mk,UInt8.ofNat (48+n % 10)]:=by simp only[xXn,xYe,Option.map_some]
 simp(config:=zzC)only[go_sem,hcv,htm,show ((10:Int)=0)=False from eq_false (by decide),hwr,wY4,fits,show yQl 2 [(0,Operand.tmp 7),(1,Operand.tmp 11)]=true from rfl,Option.map_some,Option.bind_some,hby,show (#[mk,UInt8.ofNat (48+n % 10)].size+s.size≤281474976710656)=True from eq_true (by show 2+s.size≤_; omega)]
 exact yQ0 ⟨rfl,rfl⟩
theorem wYx (e n:Nat)(he:e≤2)(hn:n≤60)(st:ISt) :
  ICall prog gl 124 [.raw (.int .i64 (e:Int)),.raw (.int .i64 (n:Int))] st (fun r st'=>r=.raw (.int .i64 ((e ^ n:Nat):Int))∧st'=st):=by
 have hpw:∀ k,k≤60→e ^ k≤1152921504606846976:=fun k hk=>by
  have h1:e ^ k≤2 ^ k:=Nat.pow_le_pow_left he k
  have h2:2 ^ k≤2 ^ 60:=Nat.pow_le_pow_right (by omega) hk
  have h3:(2:Nat) ^ 60=1152921504606846976:=by decide
  omega
 refine iI func124 rfl rfl (by kernel_rfl) ?_
 simp(config:=zzC)only[go_sem,fits]
 refine LoopC.ctr n (fun k fr st' ds=>fr 0=.iv (.raw (.int .i64 (e:Int)))∧fr 1=.iv (.raw (.int .i64 (n:Int)))∧fr 5=.iv (.raw (.int .i64 ((e ^ k:Nat):Int)))∧fr 6=.iv (.raw (.int .i64 (k:Int)))∧st'=st∧ds=[]) ?_ ?_ ?_
 ·simp(config:=zzC)only[go_sem]
  exact⟨by rw[Nat.pow_zero]; rfl,rfl⟩
 ·rintro k fr _ _ hlt ⟨f0,f1,f5,f6,rfl,rfl⟩
  have h1:=hpw (k+1) (by omega)
  have hmul:IntKind.i64.wrap (((e ^ k:Nat):Int)*(e:Int))=((e ^ (k+1):Nat):Int):=by
   rw[Nat.pow_succ] at *
   rw[← Int.natCast_mul,w64]<;>omega
  simp(config:=zzC)only[go_sem,f0,f1,f5,f6,lt_i hlt,hmul,yQf hlt (show n≤281474976710656 by omega)]
 ·rintro fr _ _ ⟨f0,f1,f5,f6,rfl,rfl⟩
  simp(config:=zzC)only[go_sem,f1,f5,f6,yQt (nLi _)]
  exact yQ0 ⟨rfl,rfl⟩
structure Mo where
 sees:List (List Nat)
 elems:Nat
 syms:List (ByteArray×Nat)
 bits:Nat
 table:Nat
def yXk (l:List Nat):List IV:=l.map fun (n:Nat)=>.raw (.int .i64 (n:Int))
def IsSees:List (List Nat)→List IV→Prop
 | [],xs=>xs=[]
 | a::l,xs=>∃ t ys,xs=.sl t (yXk a)::ys∧okEs t 1∧IsSees l ys
def IsMo (M:Mo)(cs:List IV):Prop:=∃ t1 xs t2 t3,cs=[.sl t1 xs,.raw (.int .i64 (M.elems:Int)),.sl t2 (M.syms.map fun p=>.raw (.string p.1)),.sl t3 (M.syms.map fun p=>.raw (.int .i64 (p.2:Int))),.raw (.int .i64 (M.bits:Int)),.raw (.int .i64 (M.table:Int))] ∧
 okEs t1 1∧IsSees M.sees xs∧okEs t2 1∧okEs t3 1
def bitL (tb:Nat)(k:ByteArray)(i:Nat):List (ByteArray×Nat)→Nat
 | []=>0
 | p::l=>if p.1=k then tb / 2 ^ (p.2+i) % 2 else bitL tb k i l
def Mo.bit (M:Mo)(k:ByteArray)(i:Nat):Nat:=bitL M.table k i M.syms
structure MoOk (M:Mo):Prop where
 el:0<M.elems∧M.elems≤2
 n:M.syms.length≤1000000000
 first:∀ p∈M.syms,p.2≤1000000000000
 table:M.table≤1000000
theorem shrN (tb s:Nat)(h:tb≤1000000):Int.fdiv (tb:Int) (2 ^ (min s 64))=((tb / 2 ^ s:Nat):Int):=by
 have h1:(2:Int) ^ min s 64=((2 ^ min s 64:Nat):Int):=by norm_cast
 rw[h1,← Int.ofNat_fdiv]
 by_cases hs:s≤64
 ·rw[Nat.min_eq_left hs]
 ·rw[Nat.min_eq_right (by omega)]
  have h2:(2:Nat) ^ 64≤2 ^ s:=Nat.pow_le_pow_right (by omega) (by omega)
  have h3:(1000000:Nat)<2 ^ 64:=by decide
  rw[Nat.div_eq_of_lt (by omega),Nat.div_eq_of_lt (by omega)]
theorem andN (x:Nat)(h:x≤1000000):IntKind.i64.wrap ((BitVec.ofInt IntKind.i64.bits ((x:Nat):Int) &&& BitVec.ofInt IntKind.i64.bits 1).toNat:Int)=((x % 2:Nat):Int):=by
 show IntKind.i64.wrap ((BitVec.ofInt 64 ((x:Nat):Int) &&& BitVec.ofInt 64 1).toNat:Int)=_
 have h3:(1000000:Nat)<2 ^ 64:=by decide
 have h1:(BitVec.ofInt 64 ((x:Nat):Int) &&& BitVec.ofInt 64 1).toNat=x % 2:=by
  rw[BitVec.toNat_and,BitVec.ofInt_natCast,show BitVec.ofInt 64 1=BitVec.ofNat 64 1 from rfl,BitVec.toNat_ofNat,BitVec.toNat_ofNat,Nat.mod_eq_of_lt (show x<2 ^ 64 by omega),show 1 % 2 ^ 64=1 from rfl,Nat.and_one_is_mod]
 rw[h1,w64]<;>omega
theorem wU9 (M:Mo)(cs:List IV)(hM:IsMo M cs)(hO:MoOk M)(k:ByteArray)(i:Nat)(hi:i≤4611686018427387904)(st:ISt) :
  ICall prog gl 125 [.cptr (.agg cs),.raw (.string k),.raw (.int .i64 (i:Int))] st (fun r st'=>r=.raw (.int .i64 (M.bit k i:Int))∧st'=st):=by
 obtain⟨t1,xs,t2,t3,rfl,e1,hs,e2,e3⟩:=hM
 refine iI func125 rfl rfl (by kernel_rfl) ?_
 simp(config:=zzC)only[go_sem,fits]
 refine LoopC.ctr M.syms.length (fun j fr st' ds=>M.bit k i=bitL M.table k i (M.syms.drop j)∧fr 0=.iv (.cptr (.agg [.sl t1 xs,.raw (.int .i64 (M.elems:Int)),.sl t2 (M.syms.map fun p=>.raw (.string p.1)),.sl t3 (M.syms.map fun p=>.raw (.int .i64 (p.2:Int))),.raw (.int .i64 (M.bits:Int)),.raw (.int .i64 (M.table:Int))])) ∧
  fr 1=.iv (.raw (.string k))∧fr 2=.iv (.raw (.int .i64 (i:Int)))∧fr 7=.iv (.raw (.int .i64 (j:Int)))∧st'=st∧ds=[]) ?_ ?_ ?_
 ·simp(config:=zzC)only[go_sem]
  exact⟨rfl,rfl⟩
 ·rintro j fr _ _ hlt ⟨hbit,f0,f1,f2,f7,rfl,rfl⟩
  obtain⟨p,hp⟩:=yQ5 hlt
  have h1:(M.syms.map fun p=>IV.raw (.string p.1))[j]?=some (.raw (.string p.1)):=by rw[List.getElem?_map,hp]; rfl
  have h2:(M.syms.map fun p=>IV.raw (.int .i64 (p.2:Int)))[j]?=some (.raw (.int .i64 (p.2:Int))):=by rw[List.getElem?_map,hp]; rfl
  have hf:=hO.first p (lMg hp)
  rw[List.drop_eq_getElem_cons hlt,(lGs hp).2] at hbit
  simp only[bitL] at hbit
  simp(config:=zzC)only[go_sem,f0,f1,f2,f7,fits,List.length_map,lt_i hlt,yQ1 e2,iNn,h1]
  intro hlen
  have hadd:IntKind.i64.wrap ((p.2:Int)+(i:Int))=((p.2+i:Nat):Int):=by rw[w64]<;>omega
  have hdv:M.table / 2 ^ (p.2+i)≤1000000:=Nat.le_trans (Nat.div_le_self _ _) hO.table
  by_cases hk:p.1=k
  ·rw[if_pos hk] at hbit
   simp(config:=zzC)only[go_sem,f0,f1,f2,f7,fits,dEt hk,List.length_map,lt_i hlt,yQ1 e3,iNn,h2,hadd,show ((0:Int)≤((p.2+i:Nat):Int))=True from eq_true (by omega),shrN _ _ hO.table,andN _ hdv]
   intros
   exact yQ0 ⟨by rw[hbit],rfl⟩
  ·rw[if_neg hk] at hbit
   simp(config:=zzC)only[go_sem,f0,f1,f2,f7,fits,dEf hk,yQf hlt (show M.syms.length≤281474976710656 by omega)]
   exact hbit
 ·rintro fr _ _ ⟨hbit,f0,f1,f2,f7,rfl,rfl⟩
  rw[List.drop_length] at hbit
  simp(config:=zzC)only[go_sem,f0,f1,f2,f7,fits,List.length_map,yQt (nLi _)]
  intros
  exact yQ0 ⟨by rw[hbit]; rfl,rfl⟩
end Go.Proofs.Tryz
namespace Go.Proofs.Tryz
open Go Go.Iv
structure Md where
 sees:Nat→List Nat
 E:Nat
 P:ByteArray→List Nat→Nat→Bool
 F:ByteArray→List Nat→Nat
 V:ByteArray→Nat
abbrev Env:=List (ByteArray×Nat)
def yVf (env:Env)(n:ByteArray):Option Nat:=(env.find? fun p=>decide (p.1=n)).map (·.2)
mutual
def valT (M:Md)(env:Env):Tm→Nat
 | .mk true n _=>(yVf env n).getD (M.V n)
 | .mk false n l=>M.F n (yWu M env l)
def yWu (M:Md)(env:Env):List Tm→List Nat
 | []=>[]
 | a::l=>valT M env a::yWu M env l
end
def impB:List Bool→Bool
 | [a,b]=>!a || b
 | _=>true
def iffB:List Bool→Bool
 | [a,b]=>a == b
 | _=>true
mutual
def hold (M:Md):Fm→Env→Nat→Bool
 | .mk op n us sub,env,w =>
  if op=1 then M.P n (yWu M env us) w
  else if op=3 then (M.sees w).all fun v=>!((yJ0 M sub env v).all id)
  else if op=4 then (yJ0 M sub env w).all id
  else if op=5 then (yJ0 M sub env w).any id
  else if op=6 then (M.sees w).all fun v=>impB (yJ0 M sub env v)
  else if op=7 then (M.sees w).all fun v=>iffB (yJ0 M sub env v)
  else if op=8 then (List.range M.E).all fun e=>(yJ0 M sub ((n,e)::env) w).all id
  else if op=9 then (List.range M.E).any fun e=>(yJ0 M sub ((n,e)::env) w).all id
  else false
def yJ0 (M:Md):List Fm→Env→Nat→List Bool
 | [],_,_=>[]
 | a::l,env,w=>hold M a env w::yJ0 M l env w
end
mutual
def valX (M:Md)(env:List Nat):NlT→Nat
 | .bv i=>(env.reverse[i]?).getD 0
 | .fv n=>M.V n
 | .ap n l=>M.F n (zQ4 M env l)
def zQ4 (M:Md)(env:List Nat):List NlT→List Nat
 | []=>[]
 | a::l=>valX M env a::zQ4 M env l
end
mutual
def zYe (M:Md):NlF→List Nat→Nat→Bool
 | .mk op n us sub,env,w =>
  if op=1 then M.P n (zQ4 M env us) w
  else if op=3 then (M.sees w).all fun v=>!((yKo M sub env v).all id)
  else if op=4 then (yKo M sub env w).all id
  else if op=5 then (yKo M sub env w).any id
  else if op=6 then (M.sees w).all fun v=>impB (yKo M sub env v)
  else if op=7 then (M.sees w).all fun v=>iffB (yKo M sub env v)
  else if op=8 then (List.range M.E).all fun e=>(yKo M sub (e::env) w).all id
  else if op=9 then (List.range M.E).any fun e=>(yKo M sub (e::env) w).all id
  else false
def yKo (M:Md):List NlF→List Nat→Nat→List Bool
 | [],_,_=>[]
 | a::l,env,w=>zYe M a env w::yKo M l env w
end
theorem xUs (n:ByteArray):∀ env:Env,(∀ i,yGc (env.map (·.1)) n=some i→i<env.length∧yVf env n=some (((env.map (·.2)).reverse[i]?).getD 0))∧(yGc (env.map (·.1)) n=none→yVf env n=none)
 | []=>⟨fun i h=>by simp[yGc] at h,fun _=>rfl⟩
 | (m,e)::env=>by
  obtain⟨h1,h2⟩:=xUs n env
  simp only[List.map_cons,yGc]
  by_cases h:n=m
  ·subst h
   simp only[if_true]
   refine⟨fun i hi=>?_,fun h=>by cases h⟩
   simp only[List.length_map,Option.some.injEq] at hi
   subst hi
   refine⟨by simp,?_⟩
   simp[yVf]
  ·have hm:¬ m=n:=fun h'=>h h'.symm
   simp only[if_neg h]
   have hl:yVf ((m,e)::env) n=yVf env n:=by simp[yVf,List.find?,hm]
   rw[hl]
   refine⟨fun i hi=>?_,h2⟩
   obtain⟨k1,k2⟩:=h1 i hi
   refine⟨by simp only[List.length_cons]; omega,?_⟩
   rw[k2,List.reverse_cons,List.getElem?_append_left (by simpa using k1)]
mutual
theorem vQz (M:Md)(env:Env):∀ t:Tm,valT M env t=valX M (env.map (·.2)) (db (env.map (·.1)) t)
 | .mk true n us=>by
  obtain⟨h1,h2⟩:=xUs n env
  simp only[valT,db,yJa]
  cases h:yGc (env.map (·.1)) n with
  | none=>rw[h2 h]; simp[valX]
  | some i=>rw[(h1 i h).2]; simp[valX]
 | .mk false n us=>by simp only[valT,db,valX,xQn M env us]
theorem xQn (M:Md)(env:Env):∀ l:List Tm,yWu M env l=zQ4 M (env.map (·.2)) (dbs (env.map (·.1)) l)
 | []=>rfl
 | a::l=>by simp only[yWu,dbs,zQ4,vQz M env a,xQn M env l]
end
theorem vXl {op:Nat}(h8:op≠8)(h9:op≠9):isQ op=false:=by simp[isQ,h8,h9]
mutual
theorem yGw (M:Md):∀ (f:Fm) (env:Env) (w:Nat),hold M f env w=zYe M (dbF (env.map (·.1)) f) (env.map (·.2)) w
 | .mk op n us sub,env,w=>by
  simp only[hold,dbF,zYe]
  by_cases h8:op=8
  ·subst h8
   have ih:=fun e=>zZs M sub ((n,e)::env) w
   simp only[List.map_cons] at ih
   simp[isQ,ih]
  ·by_cases h9:op=9
   ·subst h9
    have ih:=fun e=>zZs M sub ((n,e)::env) w
    simp only[List.map_cons] at ih
    simp[isQ,ih]
   ·have ih:=fun v=>zZs M sub env v
    simp only[vXl h8 h9,bFt,if_false,if_neg h8,if_neg h9,xQn M env us,ih]
theorem zZs (M:Md):∀ (l:List Fm) (env:Env) (w:Nat),yJ0 M l env w=yKo M (dbFs (env.map (·.1)) l) (env.map (·.2)) w
 | [],_,_=>rfl
 | a::l,env,w=>by simp only[yJ0,dbFs,yKo,yGw M a env w,zZs M l env w]
end
theorem xY3 (M:Md){f g:Fm}(h:dbF [] f=dbF [] g)(w:Nat):hold M f [] w=hold M g [] w:=by
 rw[yGw,yGw]
 simp only[List.map_nil,h]
def Md.upd (M:Md)(x:ByteArray)(e:Nat):Md:={ M with V:=fun n=>if x=n then e else M.V n }
theorem xUr (env:Env)(x n:ByteArray)(e d:Nat):(yVf (env++[(x,e)]) n).getD d=(yVf env n).getD (if x=n then e else d):=by
 unfold yVf
 rw[List.find?_append]
 cases List.find? (fun p=>decide (p.1=n)) env with
 | some p=>rfl
 | none =>
  by_cases h:x=n
  ·simp[List.find?,h]
  ·simp[List.find?,h]
mutual
theorem wXt (M:Md)(x:ByteArray)(e:Nat)(env:Env):∀ t:Tm,valT M (env++[(x,e)]) t=valT (M.upd x e) env t
 | .mk true n us=>by simp only[valT,xUr,Md.upd]
 | .mk false n us=>by simp only[valT,zX1 M x e env us]; rfl
theorem zX1 (M:Md)(x:ByteArray)(e:Nat)(env:Env):∀ l:List Tm,yWu M (env++[(x,e)]) l=yWu (M.upd x e) env l
 | []=>rfl
 | a::l=>by simp only[yWu,wXt M x e env a,zX1 M x e env l]
end
mutual
theorem zUg (M:Md)(x:ByteArray)(e:Nat):∀ (f:Fm) (env:Env) (w:Nat),hold M f (env++[(x,e)]) w=hold (M.upd x e) f env w
 | .mk op n us sub,env,w=>by
  have ih:=fun v=>zQk M x e sub env v
  have ih2:=fun d=>zQk M x e sub ((n,d)::env) w
  simp only[List.cons_append] at ih2
  simp only[hold,zX1,ih,ih2]
  rfl
theorem zQk (M:Md)(x:ByteArray)(e:Nat):∀ (l:List Fm) (env:Env) (w:Nat),yJ0 M l (env++[(x,e)]) w=yJ0 (M.upd x e) l env w
 | [],_,_=>rfl
 | a::l,env,w=>by simp only[yJ0,zUg M x e a env w,zQk M x e l env w]
end
theorem xKv (M:Md)(x:ByteArray)(e:Nat)(f:Fm)(w:Nat):hold M f [(x,e)] w=hold (M.upd x e) f [] w:=zUg M x e f [] w
mutual
theorem zKt (M:Md)(env:List Nat):∀ t:Tm,valX M env (db [] t)=valT M [] t
 | .mk true n us=>by simp[db,yJa,yGc,valX,valT,yVf]
 | .mk false n us=>by simp only[db,valX,valT,zX2 M env us]
theorem zX2 (M:Md)(env:List Nat):∀ l:List Tm,zQ4 M env (dbs [] l)=yWu M [] l
 | []=>rfl
 | a::l=>by simp only[dbs,zQ4,yWu,zKt M env a,zX2 M env l]
end
section
variable (M:Md)(x:ByteArray)(t:Tm)
theorem wXs (env:List Nat)(n:ByteArray):valX M env (sub1 x t n)=(M.upd x (valT M [] t)).V n:=by
 unfold sub1 Md.upd
 by_cases h:x=n
 ·simp only[if_pos h,zKt]
 ·simp only[if_neg h,valX]
mutual
theorem wXu (env:List Nat):∀ d:NlT,valX M env (dsub (sub1 x t) d)=valX (M.upd x (valT M [] t)) env d
 | .bv i=>rfl
 | .fv n=>by simp only[dsub,wXs,valX]
 | .ap n l=>by simp only[dsub,valX,zX3 env l]; rfl
theorem zX3 (env:List Nat):∀ l:List NlT,zQ4 M env (zKm (sub1 x t) l)=zQ4 (M.upd x (valT M [] t)) env l
 | []=>rfl
 | a::l=>by simp only[zKm,zQ4,wXu env a,zX3 env l]
end
mutual
theorem zUj:∀ (d:NlF)(env:List Nat)(w:Nat),zYe M (zJk (sub1 x t) d) env w=zYe (M.upd x (valT M [] t)) d env w
 | .mk op n us sub,env,w=>by
  have ih:=fun v=>zQl sub env v
  have ih2:=fun e=>zQl sub (e::env) w
  simp only[zJk,zYe,zX3,ih,ih2]
  rfl
theorem zQl:∀ (l:List NlF)(env:List Nat)(w:Nat),yKo M (yUt (sub1 x t) l) env w=yKo (M.upd x (valT M [] t)) l env w
 | [],_,_=>rfl
 | a::l,env,w=>by simp only[yUt,yKo,zUj a env w,zQl l env w]
end
theorem zZr {f:Fm}(hf:f.ok=true)(w:Nat):hold M (yXr (yKg [(x,t)] (frF f)) f) [] w=hold (M.upd x (valT M [] t)) f [] w:=by
 rw[yGw,yGw]
 simp only[List.map_nil]
 rw[wK8 hf,zUj]
end
section
variable (M:Md)(y:ByteArray)(e:Nat)
mutual
theorem xG2 (env:List Nat):∀ d:NlT,y ∉ frT d→valX (M.upd y e) env d=valX M env d
 | .bv i,_=>rfl
 | .fv n,h=>by
  have:¬ y=n:=fun hn=>h (by simp[frT,hn])
  simp only[valX,Md.upd,if_neg this]
 | .ap n l,h=>by simp only[valX,zQ3 env l (by simpa[frT] using h)]; rfl
theorem zQ3 (env:List Nat):∀ l:List NlT,y ∉ frTs l→zQ4 (M.upd y e) env l=zQ4 M env l
 | [],_=>rfl
 | a::l,h=>by
  simp only[frTs,List.mem_append,not_or] at h
  simp only[zQ4,xG2 env a h.1,zQ3 env l h.2]
end
mutual
theorem zVp:∀ (d:NlF)(env:List Nat)(w:Nat),y ∉ frD d→zYe (M.upd y e) d env w=zYe M d env w
 | .mk op n us sub,env,w,h=>by
  simp only[frD,List.mem_append,not_or] at h
  have ih:=fun v=>yGx sub env v h.2
  have ih2:=fun c=>yGx sub (c::env) w h.2
  simp only[zYe,zQ3 M y e _ us h.1,ih,ih2]
  rfl
theorem yGx:∀ (l:List NlF)(env:List Nat)(w:Nat),y ∉ frDs l→yKo (M.upd y e) l env w=yKo M l env w
 | [],_,_,_=>rfl
 | a::l,env,w,h=>by
  simp only[frDs,List.mem_append,not_or] at h
  simp only[yKo,zVp a env w h.1,yGx l env w h.2]
end
theorem yYg {f:Fm}(hf:f.ok=true)(h:y ∉ frF f)(w:Nat):hold (M.upd y e) f [] w=hold M f [] w:=by
 rw[yGw,yGw]
 exact zVp M y e _ _ w (by simp only[List.map_nil]; rw[zYi hf]; exact h)
end
end Go.Proofs.Tryz
namespace Go.Proofs.Tryz
open Go Go.Iv
def cmpN (a b:Nat):Int:=if a<b then -1 else if b<a then 1 else 0
noncomputable def cmpB (a b:ByteArray):Int:=if Op.bytesLess a.data.toList b.data.toList=true then -1 else if Op.bytesLess b.data.toList a.data.toList=true then 1 else 0
def lexI (x y:Int):Int:=if x=0 then y else x
mutual
noncomputable def yW2:Tm→Tm→Int
 | .mk v n us,.mk v' n' us'=>if v=v' then lexI (cmpB n n') (lexI (cmpN us.length us'.length) (yJz us us')) else if v=true then -1 else 1
noncomputable def yJz:List Tm→List Tm→Int
 | a::l,b::m=>lexI (yW2 a b) (yJz l m)
 | _,_=>0
end
mutual
noncomputable def yXa:Fm→Fm→Int
 | .mk o n us sub,.mk o' n' us' sub'=>lexI (cmpN o o') (lexI (cmpB n n') (lexI (lexI (cmpN us.length us'.length) (yJz us us')) (lexI (cmpN sub.length sub'.length) (yYo sub sub'))))
noncomputable def yYo:List Fm→List Fm→Int
 | a::l,b::m=>lexI (yXa a b) (yYo l m)
 | _,_=>0
end
structure Cp {α:Type}(f:α→α→Int)(a:α):Prop where
 eq:∀ b,f a b=0↔a=b
 neg:∀ b,f b a = - f a b
 tr:∀ b c,f a b<0→f b c<0→f a c<0
theorem yV6 {x y:Int}:lexI x y=0↔x=0∧y=0:=by
 unfold lexI; split
 ·rename_i h; simp[h]
 ·rename_i h; simp[h]
theorem yWf (x y:Int):lexI (-x) (-y) = - lexI x y:=by
 unfold lexI
 by_cases h:x=0
 ·simp[h]
 ·rw[if_neg (by omega),if_neg h]
theorem zY8 {x y:Int}:lexI x y<0↔x<0∨x=0∧y<0:=by
 unfold lexI; split
 ·rename_i h; simp[h]
 ·rename_i h; simp[h]
theorem zVk {p q r p' q' r':Int}(h1:p<0→q<0→r<0)(h2:p=0→q=r)(h3:q=0→p=r)(h4:p'<0→q'<0→r'<0)(h:lexI p p'<0)(k:lexI q q'<0):lexI r r'<0:=by
 rw[zY8] at *
 rcases h with h | ⟨h,h'⟩
 ·rcases k with k | ⟨k,_⟩
  ·exact .inl (h1 h k)
  ·exact .inl (by rw[← h3 k]; exact h)
 ·rcases k with k | ⟨k,k'⟩
  ·exact .inl (by rw[← h2 h]; exact k)
  ·exact .inr ⟨by rw[← h2 h]; exact k,h4 h' k'⟩
theorem yYn (a:Nat):Cp cmpN a:=by
 refine⟨fun b=>?_,fun b=>?_,fun b c=>?_⟩<;>unfold cmpN<;>repeat' split
 all_goals (first | omega | simp_all | (constructor<;>intro<;>omega))
open Classical in
theorem zQp {a b:ByteArray}:cmpB a b=if ltN a b then -1 else if ltN b a then 1 else 0:=by
 unfold cmpB
 congr 1
 ·exact propext xKh
 ·congr 1; exact propext xKh
open Classical in
theorem yJi (a:ByteArray):Cp cmpB a:=by
 refine⟨fun b=>?_,fun b=>?_,fun b c=>?_⟩
 ·rw[zQp]
  by_cases h1:ltN a b
  ·rw[if_pos h1]
   exact⟨fun h=>by omega,fun h=>absurd h1 (by rw[h]; exact xZw b)⟩
  ·rw[if_neg h1]
   by_cases h2:ltN b a
   ·rw[if_pos h2]
    exact⟨fun h=>by omega,fun h=>absurd h2 (by rw[h]; exact xZw b)⟩
   ·rw[if_neg h2]
    exact⟨fun _=>Classical.byContradiction fun hne=>h2 (xUp h1 hne),fun _=>rfl⟩
 ·rw[zQp,zQp]
  by_cases h1:ltN a b
  ·rw[if_pos h1,if_neg (xUq h1),if_pos h1]; rfl
  ·by_cases h2:ltN b a
   ·rw[if_pos h2,if_neg h1,if_pos h2]
   ·rw[if_neg h1,if_neg h2,if_neg h2,if_neg h1]; rfl
 ·rw[zQp,zQp,zQp]
  have key:∀ x y:ByteArray,(if ltN x y then (-1:Int) else if ltN y x then 1 else 0)<0↔ltN x y:=fun x y=>by
   by_cases h1:ltN x y
   ·simp[h1]
   ·by_cases h2:ltN y x<;>simp[h1,h2]
  rw[key,key,key]
  exact xUo
section
variable {α:Type}{f:α→α→Int}{g:List α→List α→Int}(g0:g [] []=0)(g1:∀ a b l m,g (a::l) (b::m)=lexI (f a b) (g l m))
include g0 g1
theorem xZx:∀ (l:List α),(∀ a∈l,∀ b,f a b=0↔a=b)→∀ m,l.length=m.length→(g l m=0↔l=m)
 | [],_,m,hm=>by
  obtain rfl:m=[]:=List.eq_nil_of_length_eq_zero hm.symm
  simp[g0]
 | a::l,hc,b::m,hm=>by
  rw[g1,yV6,hc a (by simp),xZx l (fun b hb=>hc b (by simp[hb])) m (by simpa using hm),List.cons.injEq]
theorem xKe:∀ (l:List α),(∀ a∈l,∀ b,f b a = - f a b)→∀ m,l.length=m.length→g m l = - g l m
 | [],_,m,hm=>by
  obtain rfl:m=[]:=List.eq_nil_of_length_eq_zero hm.symm
  simp[g0]
 | a::l,hc,b::m,hm=>by
  rw[g1,g1,hc a (by simp),xKe l (fun b hb=>hc b (by simp[hb])) m (by simpa using hm),yWf]
theorem xUw (he:∀ a b,f a b=0↔a=b):∀ (l:List α),(∀ a∈l,∀ b c,f a b<0→f b c<0→f a c<0)→∀ m n,l.length=m.length→m.length=n.length→g l m<0→g m n<0→g l n<0
 | [],_,m,n,hm,hn,h,_=>by
  obtain rfl:m=[]:=List.eq_nil_of_length_eq_zero hm.symm
  rw[g0] at h; omega
 | a::l,hc,b::m,c::n,hm,hn,h,k=>by
  rw[g1] at h k ⊢
  exact zVk (hc a (by simp) b c) (fun e=>by rw[(he a b).1 e]) (fun e=>by rw[(he b c).1 e]) (xUw he l (fun b hb=>hc b (by simp[hb])) m n (by simpa using hm) (by simpa using hn)) h k
end
def lenL {α:Type}(g:List α→List α→Int)(l m:List α):Int:=lexI (cmpN l.length m.length) (g l m)
theorem yX6 {a b:Nat}:cmpN a b=0↔a=b:=(yYn a).eq b
section
variable {α:Type}{f:α→α→Int}{g:List α→List α→Int}(g0:g [] []=0)(g1:∀ a b l m,g (a::l) (b::m)=lexI (f a b) (g l m))
include g0 g1
theorem zJ1 {l:List α}(h:∀ a∈l,∀ b,f a b=0↔a=b)(m:List α):lenL g l m=0↔l=m:=by
 unfold lenL
 rw[yV6,yX6]
 constructor
 ·rintro⟨h1,h2⟩; exact (xZx g0 g1 l h m h1).1 h2
 ·rintro rfl; exact⟨rfl,(xZx g0 g1 l h l rfl).2 rfl⟩
theorem zYa {l:List α}(h:∀ a∈l,∀ b,f b a = - f a b)(m:List α):lenL g m l = - lenL g l m:=by
 unfold lenL
 rw[(yYn l.length).neg]
 by_cases hl:l.length=m.length
 ·rw[xKe g0 g1 l h m hl,yWf]
 ·have:¬ cmpN l.length m.length=0:=fun h=>hl (yX6.1 h)
  unfold lexI
  rw[if_neg (by omega),if_neg this]
theorem xX0 (he:∀ a b,f a b=0↔a=b){l:List α}(h:∀ a∈l,∀ b c,f a b<0→f b c<0→f a c<0)(m n:List α)(h1:lenL g l m<0)(h2:lenL g m n<0):lenL g l n<0:=by
 unfold lenL at *
 rw[zY8] at h1 h2
 by_cases hl:l.length=m.length∧m.length=n.length
 ·obtain⟨hl,hm⟩:=hl
  have e1:¬ cmpN l.length m.length<0:=by rw[yX6.2 hl]; omega
  have e2:¬ cmpN m.length n.length<0:=by rw[yX6.2 hm]; omega
  have e3:cmpN l.length n.length=0:=yX6.2 (hl.trans hm)
  rw[zY8]
  exact .inr ⟨e3,xUw g0 g1 he l h m n hl hm (h1.resolve_left e1).2 (h2.resolve_left e2).2⟩
 ·rw[zY8]
  left
  rcases h1 with h1 | ⟨h1,_⟩
  ·rcases h2 with h2 | ⟨h2,_⟩
   ·exact (yYn _).tr _ _ h1 h2
   ·rw[← yX6.1 h2]; exact h1
  ·rcases h2 with h2 | ⟨h2,_⟩
   ·rw[yX6.1 h1]; exact h2
   ·exact absurd ⟨yX6.1 h1,yX6.1 h2⟩ hl
end
theorem yKn:yJz [] []=0:=by simp only[yJz]
theorem yKm (a b:Tm)(l m:List Tm):yJz (a::l) (b::m)=lexI (yW2 a b) (yJz l m):=by simp only[yJz]
theorem yU2:yYo [] []=0:=by simp only[yYo]
theorem yU1 (a b:Fm)(l m:List Fm):yYo (a::l) (b::m)=lexI (yXa a b) (yYo l m):=by simp only[yYo]
theorem yG4 (v v':Bool)(n n':ByteArray)(us us':List Tm):yW2 (.mk v n us) (.mk v' n' us')=if v=v' then lexI (cmpB n n') (lenL yJz us us') else if v=true then -1 else 1:=by simp only[yW2,lenL]
theorem yG5 (o o':Nat)(n n':ByteArray)(us us':List Tm)(sub sub':List Fm):yXa (.mk o n us sub) (.mk o' n' us' sub')=lexI (cmpN o o') (lexI (cmpB n n') (lexI (lenL yJz us us') (lenL yYo sub sub'))):=by simp only[yXa,lenL]
theorem xG7 {p:Tm→Prop}(h:∀ v n us,(∀ a∈us,p a)→p (.mk v n us))(t:Tm):p t:=by
 have key:∀ (k:Nat) (t:Tm),SizeOf.sizeOf t<k→p t:=fun k=>by
  induction k with
  | zero=>intro t ht; omega
  | succ k ih =>
   rintro⟨v,n,us⟩ ht
   refine h v n us fun a ha=>ih a ?_
   have:=lSm ha
   simp only[Tm.mk.sizeOf_spec] at ht
   omega
 exact key _ t (Nat.lt_succ_self _)
theorem wZ7 {p:Fm→Prop}(h:∀ o n us sub,(∀ a∈sub,p a)→p (.mk o n us sub))(t:Fm):p t:=by
 have key:∀ (k:Nat) (t:Fm),SizeOf.sizeOf t<k→p t:=fun k=>by
  induction k with
  | zero=>intro t ht; omega
  | succ k ih =>
   rintro⟨o,n,us,sub⟩ ht
   refine h o n us sub fun a ha=>ih a ?_
   have:=lSm ha
   simp only[Fm.mk.sizeOf_spec] at ht
   omega
 exact key _ t (Nat.lt_succ_self _)
theorem yUu (a b:Tm):yW2 a b=0↔a=b:=by
 revert b
 refine xG7 (p:=fun a=>∀ b,yW2 a b=0↔a=b) (fun v n us ih b=>?_) a
 obtain⟨v',n',us'⟩:=b
 rw[yG4,Tm.mk.injEq]
 by_cases hv:v=v'
 ·rw[if_pos hv,yV6,(yJi n).eq,zJ1 yKn yKm ih]
  simp[hv]
 ·rw[if_neg hv]
  simp only[hv,false_and,iff_false]
  split<;>omega
theorem wZs (a b:Tm):yW2 b a = - yW2 a b:=by
 revert b
 refine xG7 (p:=fun a=>∀ b,yW2 b a = - yW2 a b) (fun v n us ih b=>?_) a
 obtain⟨v',n',us'⟩:=b
 rw[yG4,yG4]
 by_cases hv:v=v'
 ·rw[if_pos hv,if_pos hv.symm,(yJi n).neg,zYa yKn yKm ih,yWf]
 ·rw[if_neg hv,if_neg (fun h=>hv h.symm)]
  cases v<;>cases v'<;>simp_all
theorem wKh (a b c:Tm):yW2 a b<0→yW2 b c<0→yW2 a c<0:=by
 revert b c
 refine xG7 (p:=fun a=>∀ b c,yW2 a b<0→yW2 b c<0→yW2 a c<0) (fun v n us ih b c=>?_) a
 obtain⟨v',n',us'⟩:=b
 obtain⟨v'',n'',us''⟩:=c
 rw[yG4,yG4,yG4]
 have hl:=fun (h:lexI (cmpB n n') (lenL yJz us us')<0) (k:lexI (cmpB n' n'') (lenL yJz us' us'')<0) =>
  zVk (r:=cmpB n n'') (r':=lenL yJz us us'') ((yJi n).tr n' n'') (fun e=>by rw[((yJi n).eq n').1 e]) (fun e=>by rw[((yJi n').eq n'').1 e]) (xX0 yKn yKm yUu ih us' us'') h k
 cases v<;>cases v'<;>cases v''<;>simp_all
theorem zZu (a b:Fm):yXa a b=0↔a=b:=by
 revert b
 refine wZ7 (p:=fun a=>∀ b,yXa a b=0↔a=b) (fun o n us sub ih b=>?_) a
 obtain⟨o',n',us',sub'⟩:=b
 rw[yG5,Fm.mk.injEq,yV6,yV6,yV6,yX6,(yJi n).eq,zJ1 yKn yKm (fun a _=>yUu a),zJ1 yU2 yU1 ih]
theorem zJs (a b:Fm):yXa b a = - yXa a b:=by
 revert b
 refine wZ7 (p:=fun a=>∀ b,yXa b a = - yXa a b) (fun o n us sub ih b=>?_) a
 obtain⟨o',n',us',sub'⟩:=b
 rw[yG5,yG5,(yYn o).neg,(yJi n).neg,zYa yKn yKm (fun a _=>wZs a),zYa yU2 yU1 ih,yWf,yWf,yWf]
theorem zYt (a b c:Fm):yXa a b<0→yXa b c<0→yXa a c<0:=by
 revert b c
 refine wZ7 (p:=fun a=>∀ b c,yXa a b<0→yXa b c<0→yXa a c<0) (fun o n us sub ih b c=>?_) a
 obtain⟨o',n',us',sub'⟩:=b
 obtain⟨o'',n'',us'',sub''⟩:=c
 rw[yG5,yG5,yG5]
 refine zVk ((yYn o).tr o' o'') (fun e=>by rw[yX6.1 e]) (fun e=>by rw[yX6.1 e]) ?_
 refine zVk ((yJi n).tr n' n'') (fun e=>by rw[((yJi n).eq n').1 e]) (fun e=>by rw[((yJi n').eq n'').1 e]) ?_
 exact zVk (xX0 yKn yKm yUu (fun a _=>wKh a) us' us'') (fun e=>by rw[(zJ1 yKn yKm (fun a _=>yUu a) us').1 e]) (fun e=>by rw[(zJ1 yKn yKm (fun a _=>yUu a) us'').1 e])
  (xX0 yU2 yU1 zZu ih sub' sub'')
def SetF (l r:List Fm):Prop:=r.Pairwise (fun a b=>yXa a b<0)∧∀ f,f∈r↔f∈l
theorem zJt (a:Fm):¬ yXa a a<0:=by rw[(zZu a a).2 rfl]; omega
theorem SetF.uniq:∀ {r r':List Fm},r.Pairwise (fun a b=>yXa a b<0)→r'.Pairwise (fun a b=>yXa a b<0)→(∀ x,x∈r↔x∈r')→r=r'
 | [],r',_,_,h=>by
  cases r' with
  | nil=>rfl
  | cons b r'=>exact absurd ((h b).2 (List.mem_cons_self ..)) (by simp)
 | a::r,[],_,_,h=>absurd ((h a).1 (List.mem_cons_self ..)) (by simp)
 | a::r,b::r',h1,h2,h=>by
  have p1:=List.pairwise_cons.1 h1
  have p2:=List.pairwise_cons.1 h2
  have hab:a=b:=by
   refine Classical.byContradiction fun hne=>?_
   have ha:a∈r':=by
    rcases List.mem_cons.1 ((h a).1 (List.mem_cons_self ..)) with e | e
    ·exact absurd e hne
    ·exact e
   have hb:b∈r:=by
    rcases List.mem_cons.1 ((h b).2 (List.mem_cons_self ..)) with e | e
    ·exact absurd e.symm hne
    ·exact e
   have h3:=p1.1 b hb
   have h4:=p2.1 a ha
   rw[zJs] at h4
   omega
  subst hab
  congr 1
  refine SetF.uniq p1.2 p2.2 fun x=>?_
  constructor
  ·intro hx
   rcases List.mem_cons.1 ((h x).1 (List.mem_cons_of_mem _ hx)) with e | e
   ·subst e; exact absurd (p1.1 _ hx) (zJt _)
   ·exact e
  ·intro hx
   rcases List.mem_cons.1 ((h x).2 (List.mem_cons_of_mem _ hx)) with e | e
   ·subst e; exact absurd (p2.1 _ hx) (zJt _)
   ·exact e
theorem SetF.one {l r r':List Fm}(h:SetF l r)(h':SetF l r'):r=r':=SetF.uniq h.1 h'.1 fun x=>(h.2 x).trans (h'.2 x).symm
end Go.Proofs.Tryz
namespace Go.Proofs.Tryz
open Go Go.Iv Go.Shelf Go.RowKit
set_option maxRecDepth 4000
variable (gl:Nat→Option IV)
theorem zQs (a b:ByteArray)(w:World):Calls prog 247 #[.string a,.string b] w fun e w'=>e=.returned (.int .i64 (Lib.compareBytes a.data.toList b.data.toList))∧w'=w:=by
 have t9:prog.underlying 9=some .string:=by kernel_rfl
 have a9:∀ w,(isAgg 9).run prog w=.ok false w:=run_isAgg_plain t9 rfl
 have t3:prog.underlying 3=some (.int .i64):=by kernel_rfl
 have a3:∀ w,(isAgg 3).run prog w=.ok false w:=run_isAgg_plain t3 rfl
 go_enter func247,(show _=_ from rfl)
 go_wp2
 rw[run_callFunc_extern func282 (by kernel_rfl) (by kernel_rfl) (by kernel_rfl) (e:=Extern.BytealgCompare.compare) (by kernel_rfl),Lib.run_compareString]
 simp only[Result.andThen]
 rw[Oper.upon_value]
 go_wp2
 go_ret
 exact⟨rfl,rfl⟩
theorem yYm:∀ x y:List UInt8,Lib.compareBytes x y=if Op.bytesLess x y=true then -1 else if Op.bytesLess y x=true then 1 else 0
 | [],[]=>by simp[Lib.compareBytes,Op.bytesLess]
 | [],_::_=>by simp[Lib.compareBytes,Op.bytesLess]
 | _::_,[]=>by simp[Lib.compareBytes,Op.bytesLess]
 | a::x,b::y=>by
  have ih:=yYm x y
  unfold Lib.compareBytes Op.bytesLess
  by_cases h1:a<b
  ·have h2:¬ b<a:=fun h=>UInt8.lt_irrefl _ (UInt8.lt_trans h1 h)
   simp[h1]
  ·by_cases h2:b<a
   ·have h3:a≠b:=by rintro rfl; exact UInt8.lt_irrefl _ h2
    simp[h1,h2,h3]
   ·have:a=b:=UInt8.le_antisymm (UInt8.not_lt.1 h2) (UInt8.not_lt.1 h1)
    subst this
    simp[h1,ih]
theorem zK7 (a b:ByteArray)(st:ISt):ICall prog gl 247 [.raw (.string a),.raw (.string b)] st (fun r st'=>r=.raw (.int .i64 (cmpB a b))∧st'=st):=by
 intro B X rs hg hst hv
 have hr:rs=[.string a,.string b]:=by
  match rs,hv with
  | [r,r'],hv=>rw[V.raw_inv (hv.2 0 r _ rfl rfl),V.raw_inv (hv.2 1 r' _ rfl rfl)]
  | [],hv=>cases hv.1
  | [_],hv=>cases hv.1
  | _::_::_::_,hv=>cases hv.1
 subst hr
 refine Calls.mono (zQs a b X.w) ?_
 rintro e w' ⟨rfl,rfl⟩
 refine⟨_,rfl,X,.raw (.int .i64 (cmpB a b)),rfl,hg,Ext.refl X,?_,rfl,hst⟩
 rw[yYm]
 exact .raw _ trivial
theorem zK6 (a b:ByteArray)(st:ISt):ICall prog gl 178 [.raw (.string a),.raw (.string b)] st (fun r st'=>r=.raw (.int .i64 (cmpB a b))∧st'=st):=by
 refine iI func178 rfl rfl (by kernel_rfl) ?_
 simp(config:=zzC)only[go_sem]
 refine (zK7 gl a b _).mono ?_
 rintro _ _ ⟨rfl,rfl⟩
 simp(config:=zzC)only[go_sem]
 exact yQ0 ⟨rfl,rfl⟩
theorem zKv (a:Nat)(st:ISt):ICall prog gl 246 [.raw (.int .u8 a)] st (fun r st'=>r=.raw (.bool false)∧st'=st):=by
 refine iI func246 rfl rfl (by kernel_rfl) ?_
 simp(config:=zzC)only[go_sem,show decide ((a:Int)=(a:Int))=true from dEt rfl]
 exact yQ0 ⟨rfl,rfl⟩
theorem xVu (a b:Nat)(st:ISt):ICall prog gl 177 [.raw (.int .u8 a),.raw (.int .u8 b)] st (fun r st'=>r=.raw (.int .i64 (cmpN a b))∧st'=st):=by
 refine iI func177 rfl rfl (by kernel_rfl) ?_
 simp(config:=zzC)only[go_sem]
 refine (zKv gl a _).mono ?_
 rintro _ _ ⟨rfl,rfl⟩
 simp(config:=zzC)only[go_sem]
 refine (zKv gl b _).mono ?_
 rintro _ _ ⟨rfl,rfl⟩
 unfold cmpN
 by_cases h1:a<b
 ·simp(config:=zzC)only[go_sem,lt_i h1]
  exact yQ0 ⟨by rw[if_pos h1],rfl⟩
 ·by_cases h2:b<a
  ·simp(config:=zzC)only[go_sem,yQt h1,lt_i h2]
   exact yQ0 ⟨by rw[if_neg h1,if_pos h2],rfl⟩
  ·simp(config:=zzC)only[go_sem,yQt h1,yQt h2]
   exact yQ0 ⟨by rw[if_neg h1,if_neg h2],rfl⟩
theorem xKn (a:Nat)(st:ISt):ICall prog gl 269 [.raw (.int .i64 a)] st (fun r st'=>r=.raw (.bool false)∧st'=st):=by
 refine iI func269 rfl rfl (by kernel_rfl) ?_
 simp(config:=zzC)only[go_sem,show decide ((a:Int)=(a:Int))=true from dEt rfl]
 exact yQ0 ⟨rfl,rfl⟩
theorem zYb (a b:Nat)(st:ISt):ICall prog gl 226 [.raw (.int .i64 a),.raw (.int .i64 b)] st (fun r st'=>r=.raw (.int .i64 (cmpN a b))∧st'=st):=by
 refine iI func226 rfl rfl (by kernel_rfl) ?_
 simp(config:=zzC)only[go_sem]
 refine (xKn gl a _).mono ?_
 rintro _ _ ⟨rfl,rfl⟩
 simp(config:=zzC)only[go_sem]
 refine (xKn gl b _).mono ?_
 rintro _ _ ⟨rfl,rfl⟩
 unfold cmpN
 by_cases h1:a<b
 ·simp(config:=zzC)only[go_sem,lt_i h1]
  exact yQ0 ⟨by rw[if_pos h1],rfl⟩
 ·by_cases h2:b<a
  ·simp(config:=zzC)only[go_sem,yQt h1,lt_i h2]
   exact yQ0 ⟨by rw[if_neg h1,if_pos h2],rfl⟩
  ·simp(config:=zzC)only[go_sem,yQt h1,yQt h2]
   exact yQ0 ⟨by rw[if_neg h1,if_neg h2],rfl⟩
theorem wJ0 {t:Tm}{x:IV}(h:IsTm t x):∃ v n tg xs,x=.agg [.raw (.bool v),.raw (.string n),.sl tg xs]:=by
 obtain⟨v,n,us⟩:=t
 obtain⟨tg,xs,rfl,_⟩:=h.mk
 exact⟨_,_,_,_,rfl⟩
theorem yUi {α:Type}{f:α→α→Int}{g:List α→List α→Int}(g0:g [] []=0)(g1:∀ a b l m,g (a::l) (b::m)=lexI (f a b) (g l m)):∀ (l m l' m':List α),l.length=m.length→g (l++l') (m++m')=lexI (g l m) (g l' m')
 | [],[],l',m',_=>by rw[g0]; simp[lexI]
 | a::l,b::m,l',m',h=>by
  rw[List.cons_append,List.cons_append,g1,g1,yUi g0 g1 l m l' m' (by simpa using h)]
  unfold lexI
  by_cases h1:f a b=0
  ·simp[h1]
  ·simp[h1]
 | [],_::_,_,_,h=>by simp at h
 | _::_,[],_,_,h=>by simp at h
theorem i0 (x:Int)(h:x=0):decide (x=0)=true:=dEt h
theorem i1 (x:Int)(h:¬ x=0):decide (x=0)=false:=dEf h
def CmpT (a:Tm):Prop:=∀ (b:Tm) (x y:IV) (_:IsTm a x) (_:IsTm b y) (st:ISt),ICall prog gl 180 [x,y] st (fun r st'=>r=.raw (.int .i64 (yW2 a b))∧st'=st)
def CmpF (a:Fm):Prop:=∀ (b:Fm) (x y:IV) (_:IsFm a x) (_:IsFm b y) (st:ISt),ICall prog gl 130 [x,y] st (fun r st'=>r=.raw (.int .i64 (yXa a b))∧st'=st)
theorem xVe (us:List Tm)(IH:∀ a∈us,CmpT gl a)(ws:List Tm)(t t':Tag)(xs ys:List IV)(ht:okEs t 3)(ht':okEs t' 3)(ha:IsTms us xs)(hb:IsTms ws ys)(st:ISt) :
  ICall prog gl 179 [.sl t xs,.sl t' ys,.fn (.func 180) [] []] st (fun r st'=>r=.raw (.int .i64 (lenL yJz us ws))∧st'=st):=by
 refine iI func179 rfl rfl (by kernel_rfl) ?_
 simp(config:=zzC)only[go_sem,ha.len,hb.len]
 intro hla hlb
 refine (zYb gl us.length ws.length _).mono ?_
 rintro _ st ⟨rfl,rfl⟩
 unfold lenL
 by_cases h0:cmpN us.length ws.length=0
 ·have hlen:=yX6.1 h0
  simp(config:=zzC)only[go_sem,i0 _ h0,ha.len]
  intro _
  refine LoopC.ctr us.length (fun k fr st' ds=>yJz (us.take k) (ws.take k)=0∧fr 0=.iv (.sl t xs)∧fr 1=.iv (.sl t' ys)∧fr 2=.iv (.fn (.func 180) [] [])∧fr 19=.iv (.raw (.int .i64 us.length))∧fr 20=.iv (.raw (.int .i64 k))∧st'=st∧ds=[]) ?_ ?_ ?_
  ·simp(config:=zzC)only[go_sem]
   exact⟨yKn,rfl⟩
  ·rintro k fr st1 _ hlt ⟨hn,f0,f1,f2,f19,f20,rfl,rfl⟩
   obtain⟨a,hka⟩:=yQ5 hlt
   obtain⟨b,hkb⟩:=yQ5 (l:=ws) (k:=k) (by omega)
   obtain⟨x,hkx,hx⟩:=ha.get hka
   obtain⟨y,hky,hy⟩:=hb.get hkb
   have hcall:=IH a (lMg hka) b x y hx hy st1
   have htl:(us.take k).length=(ws.take k).length:=by rw[List.length_take,List.length_take]; omega
   obtain⟨x1,x2,x3,x4,rfl⟩:=wJ0 hx
   obtain⟨y1,y2,y3,y4,rfl⟩:=wJ0 hy
   simp(config:=zzC)only[go_sem,f0,f1,f2,f19,f20,lt_i hlt,yQ1 ht,yQ1 ht',iNn,hkx,hky,fits]
   refine hcall.mono ?_
   rintro _ _ ⟨rfl,rfl⟩
   by_cases hc:yW2 a b=0
   ·simp(config:=zzC)only[go_sem,i0 _ hc,f0,f1,f2,f19,f20,yQf hlt (show us.length≤281474976710656 by omega)]
    rw[yQ6 hka,yQ6 hkb,yUi yKn yKm _ _ _ _ htl,hn,yKm,yKn,hc]
    simp[lexI]
   ·simp(config:=zzC)only[go_sem,i1 _ hc]
    refine yQ0 ⟨?_,rfl⟩
    rw[h0]
    have h2:yJz us ws=yW2 a b:=by
     conv=>lhs; rw[← List.take_append_drop k us,← List.take_append_drop k ws]
     rw[List.drop_eq_getElem_cons hlt,List.drop_eq_getElem_cons (show k<ws.length by omega),yUi yKn yKm _ _ _ _ htl,hn,yKm,(lGs hka).2,(lGs hkb).2]
     simp[lexI,hc]
    rw[h2]; simp[lexI]
  ·rintro fr st1 _ ⟨hn,f0,f1,f2,f19,f20,rfl,rfl⟩
   rw[lTl,show ws.take us.length=ws by rw[hlen,lTl]] at hn
   simp(config:=zzC)only[go_sem,f19,f20,yQt (nLi _)]
   exact yQ0 ⟨by rw[h0,hn]; simp[lexI],rfl⟩
 ·simp(config:=zzC)only[go_sem,i1 _ h0]
  exact yQ0 ⟨by simp[lexI,h0],rfl⟩
theorem xQ1 (v:Bool)(n:ByteArray)(us:List Tm)(IH:∀ a∈us,CmpT gl a):CmpT gl (.mk v n us):=by
 rintro⟨w,m,ws⟩ x y hx hy st
 obtain⟨tx,cx,rfl,htx,hcx⟩:=hx.mk
 obtain⟨ty,cy,rfl,hty,hcy⟩:=hy.mk
 have hl:=fun st=>xVe gl us IH ws tx ty cx cy htx hty hcx hcy st
 simp only[yW2]
 refine iI func180 rfl rfl (by kernel_rfl) ?_
 by_cases hv:v=w
 ·subst hv
  simp(config:=zzC)only[go_sem,beq_self_eq_true]
  refine (zK6 gl n m _).mono ?_
  rintro _ _ ⟨rfl,rfl⟩
  by_cases h0:cmpB n m=0
  ·simp(config:=zzC)only[go_sem,i0 _ h0]
   refine (hl _).mono ?_
   rintro _ _ ⟨rfl,rfl⟩
   simp(config:=zzC)only[go_sem]
   exact yQ0 ⟨by simp[lexI,h0,lenL],rfl⟩
  ·simp(config:=zzC)only[go_sem,i1 _ h0]
   exact yQ0 ⟨by simp[lexI,h0],rfl⟩
 ·cases v<;>cases w<;>first | exact absurd rfl hv | skip
  all_goals
   simp(config:=zzC)only[go_sem,beq_eq_false_iff_ne.2 hv]
   exact yQ0 ⟨by simp,rfl⟩
theorem zJq:∀ (k:Nat)(t:Tm),SizeOf.sizeOf t<k→CmpT gl t
 | 0,t,h=>by omega
 | k+1,.mk v n us,h=>xQ1 gl v n us (fun a ha=>zJq k a (by
   have:=lSm ha
   simp at h; omega))
theorem wZt (t:Tm):CmpT gl t:=zJq gl _ t (Nat.lt_succ_self _)
theorem wKj (us:List Fm)(IH:∀ a∈us,CmpF gl a)(ws:List Fm)(t t':Tag)(xs ys:List IV)(ht:okEs t 4)(ht':okEs t' 4)(ha:IsFms us xs)(hb:IsFms ws ys)(st:ISt) :
  ICall prog gl 181 [.sl t xs,.sl t' ys,.fn (.func 130) [] []] st (fun r st'=>r=.raw (.int .i64 (lenL yYo us ws))∧st'=st):=by
 refine iI func181 rfl rfl (by kernel_rfl) ?_
 simp(config:=zzC)only[go_sem,ha.len,hb.len]
 intro hla hlb
 refine (zYb gl us.length ws.length _).mono ?_
 rintro _ st ⟨rfl,rfl⟩
 unfold lenL
 by_cases h0:cmpN us.length ws.length=0
 ·have hlen:=yX6.1 h0
  simp(config:=zzC)only[go_sem,i0 _ h0,ha.len]
  intro _
  refine LoopC.ctr us.length (fun k fr st' ds=>yYo (us.take k) (ws.take k)=0∧fr 0=.iv (.sl t xs)∧fr 1=.iv (.sl t' ys)∧fr 2=.iv (.fn (.func 130) [] [])∧fr 19=.iv (.raw (.int .i64 us.length))∧fr 20=.iv (.raw (.int .i64 k))∧st'=st∧ds=[]) ?_ ?_ ?_
  ·simp(config:=zzC)only[go_sem]
   exact⟨yU2,rfl⟩
  ·rintro k fr st1 _ hlt ⟨hn,f0,f1,f2,f19,f20,rfl,rfl⟩
   obtain⟨a,hka⟩:=yQ5 hlt
   obtain⟨b,hkb⟩:=yQ5 (l:=ws) (k:=k) (by omega)
   obtain⟨x,hkx,hx⟩:=ha.get hka
   obtain⟨y,hky,hy⟩:=hb.get hkb
   have hcall:=IH a (lMg hka) b x y hx hy st1
   have htl:(us.take k).length=(ws.take k).length:=by rw[List.length_take,List.length_take]; omega
   obtain⟨x1,x2,x3,x4,x5,x6,rfl⟩:=hx.agg
   obtain⟨y1,y2,y3,y4,y5,y6,rfl⟩:=hy.agg
   simp(config:=zzC)only[go_sem,f0,f1,f2,f19,f20,lt_i hlt,yQ1 ht,yQ1 ht',iNn,hkx,hky,fits]
   refine hcall.mono ?_
   rintro _ _ ⟨rfl,rfl⟩
   by_cases hc:yXa a b=0
   ·simp(config:=zzC)only[go_sem,i0 _ hc,f0,f1,f2,f19,f20,yQf hlt (show us.length≤281474976710656 by omega)]
    rw[yQ6 hka,yQ6 hkb,yUi yU2 yU1 _ _ _ _ htl,hn,yU1,yU2,hc]
    simp[lexI]
   ·simp(config:=zzC)only[go_sem,i1 _ hc]
    refine yQ0 ⟨?_,rfl⟩
    rw[h0]
    have h2:yYo us ws=yXa a b:=by
     conv=>lhs; rw[← List.take_append_drop k us,← List.take_append_drop k ws]
     rw[List.drop_eq_getElem_cons hlt,List.drop_eq_getElem_cons (show k<ws.length by omega),yUi yU2 yU1 _ _ _ _ htl,hn,yU1,(lGs hka).2,(lGs hkb).2]
     simp[lexI,hc]
    rw[h2]; simp[lexI]
  ·rintro fr st1 _ ⟨hn,f0,f1,f2,f19,f20,rfl,rfl⟩
   rw[lTl,show ws.take us.length=ws by rw[hlen,lTl]] at hn
   simp(config:=zzC)only[go_sem,f19,f20,yQt (nLi _)]
   exact yQ0 ⟨by rw[h0,hn]; simp[lexI],rfl⟩
 ·simp(config:=zzC)only[go_sem,i1 _ h0]
  exact yQ0 ⟨by simp[lexI,h0],rfl⟩
theorem xQ3 (o:Nat)(n:ByteArray)(us:List Tm)(sub:List Fm)(IH:∀ a∈sub,CmpF gl a):CmpF gl (.mk o n us sub):=by
 rintro⟨w,m,ws,sub'⟩ x y hx hy st
 obtain⟨t1,x1,t2,x2,rfl,_,e1,i1',e2,i2⟩:=hx.mk
 obtain⟨t3,x3,t4,x4,rfl,_,e3,i3,e4,i4⟩:=hy.mk
 have hl1:=fun st=>xVe gl us (fun a _=>wZt gl a) ws t1 t3 x1 x3 e1 e3 i1' i3 st
 have hl2:=fun st=>wKj gl sub IH sub' t2 t4 x2 x4 e2 e4 i2 i4 st
 simp only[yXa]
 refine iI func130 rfl rfl (by kernel_rfl) ?_
 simp(config:=zzC)only[go_sem]
 refine (xVu gl o w _).mono ?_
 rintro _ _ ⟨rfl,rfl⟩
 by_cases h0:cmpN o w=0
 ·simp(config:=zzC)only[go_sem,i0 _ h0]
  refine (zK6 gl n m _).mono ?_
  rintro _ _ ⟨rfl,rfl⟩
  by_cases h1:cmpB n m=0
  ·simp(config:=zzC)only[go_sem,i0 _ h1]
   refine (hl1 _).mono ?_
   rintro _ _ ⟨rfl,rfl⟩
   by_cases h2:lenL yJz us ws=0
   ·simp(config:=zzC)only[go_sem,i0 _ h2]
    refine (hl2 _).mono ?_
    rintro _ _ ⟨rfl,rfl⟩
    simp(config:=zzC)only[go_sem]
    refine yQ0 ⟨?_,rfl⟩
    unfold lenL at h2 ⊢
    rw[h0,h1,h2]; simp[lexI]
   ·simp(config:=zzC)only[go_sem,i1 _ h2]
    refine yQ0 ⟨?_,rfl⟩
    unfold lenL at h2 ⊢
    rw[h0,h1]
    generalize lexI (cmpN us.length ws.length) (yJz us ws)=q at h2 ⊢
    simp[lexI,h2]
  ·simp(config:=zzC)only[go_sem,i1 _ h1]
   exact yQ0 ⟨by rw[h0]; simp[lexI,h1],rfl⟩
 ·simp(config:=zzC)only[go_sem,i1 _ h0]
  exact yQ0 ⟨by simp[lexI,h0],rfl⟩
theorem zJr:∀ (k:Nat)(t:Fm),SizeOf.sizeOf t<k→CmpF gl t
 | 0,t,h=>by omega
 | k+1,.mk o n us sub,h=>xQ3 gl o n us sub (fun a ha=>zJr k a (by
   have:=lSm ha
   simp at h; omega))
theorem xQ4 (t:Fm):CmpF gl t:=zJr gl _ t (Nat.lt_succ_self _)
theorem xGu (a b:Fm)(x y:IV)(hx:IsFm a x)(hy:IsFm b y)(st:ISt):ICall prog gl 132 [x,y] st (fun r st'=>r=.raw (.bool (decide (yXa a b=0)))∧st'=st):=by
 have hc:=fun st=>xQ4 gl a b x y hx hy st
 obtain⟨x1,x2,x3,x4,x5,x6,rfl⟩:=hx.agg
 obtain⟨y1,y2,y3,y4,y5,y6,rfl⟩:=hy.agg
 refine iI func132 rfl rfl (by kernel_rfl) ?_
 simp(config:=zzC)only[go_sem,fits]
 refine (hc _).mono ?_
 rintro _ _ ⟨rfl,rfl⟩
 simp(config:=zzC)only[go_sem]
 exact yQ0 ⟨rfl,rfl⟩
end Go.Proofs.Tryz
namespace Go.Proofs.Tryz
open Go Go.Iv
set_option maxRecDepth 4000
variable (gl:Nat→Option IV)
mutual
def Mo.val (M:Mo)(env:Env):Tm→Nat
 | .mk v n us=>if v=true then (match yVf env n with | some e=>e | none=>M.bit (keyB 118 0 n) 0 % M.elems) else M.bit (keyB 102 us.length n) (M.idx env us 0) % M.elems
def Mo.idx (M:Mo)(env:Env):List Tm→Nat→Nat
 | [],acc=>acc
 | a::l,acc=>M.idx env l (acc*M.elems+M.val env a)
end
structure IsEnv (M:Mo)(E:Env)(y z:IV):Prop where
 y:∃ t,y=.sl t (E.map fun p=>.raw (.string p.1))∧okEs t 1
 z:∃ t,z=.sl t (E.map fun p=>.raw (.int .i64 (p.2:Int)))∧okEs t 1
 lt:∀ p∈E,p.2<M.elems
 len:E.length≤1000000000
mutual
def nmT:Tm→Prop
 | .mk _ n us=>n.size≤1000000000∧us.length≤40∧nmTs us
def nmTs:List Tm→Prop
 | []=>True
 | a::l=>nmT a∧nmTs l
end
theorem xK9:∀ {l:List Tm}{a:Tm},nmTs l→a∈l→nmT a
 | b::l,a,h,ha=>by
  simp only[nmTs] at h
  rcases List.mem_cons.1 ha with rfl | ha
  ·exact h.1
  ·exact xK9 h.2 ha
theorem wVn (M:Mo)(hO:MoOk M){E:Env}(hE:∀ p∈E,p.2<M.elems)(t:Tm):M.val E.reverse t<M.elems:=by
 obtain⟨v,n,us⟩:=t
 unfold Mo.val
 split
 ·split
  ·rename_i e h
   unfold yVf at h
   obtain⟨p,hp,rfl⟩:=Option.map_eq_some_iff.1 h
   exact hE p (List.mem_reverse.1 (List.mem_of_find?_eq_some hp))
  ·exact Nat.mod_lt _ hO.el.1
 ·exact Nat.mod_lt _ hO.el.1
theorem zYd (M:Mo)(env:Env):∀ (l:List Tm) (a:Tm) (acc:Nat),M.idx env (l++[a]) acc=M.idx env l acc*M.elems+M.val env a
 | [],a,acc=>by simp[Mo.idx]
 | b::l,a,acc=>by simp only[List.cons_append,Mo.idx]; exact zYd M env l a _
theorem wQn (M:Mo)(hO:MoOk M){E:Env}(hE:∀ p∈E,p.2<M.elems):∀ (l:List Tm),M.idx E.reverse l 0<2 ^ l.length:=fun l=>by
 generalize hn:l.length=n
 induction n generalizing l with
 | zero =>
  have:l=[]:=List.eq_nil_of_length_eq_zero hn
  subst this
  simp[Mo.idx]
 | succ n ih =>
  rcases List.eq_nil_or_concat l with rfl | ⟨m,a,rfl⟩
  ·simp at hn
  ·rw[List.concat_eq_append] at hn ⊢
   have h1:=ih m (by simpa using hn)
   have h2:=wVn M hO hE a
   have h3:=hO.el
   rw[zYd,Nat.pow_succ]
   have h4:M.idx E.reverse m 0*M.elems≤M.idx E.reverse m 0*2:=Nat.mul_le_mul_left _ h3.2
   omega
def VAL (M:Mo)(t:Tm):Prop:=∀ (cs:List IV) (_:IsMo M cs) (x:IV) (_:IsTm t x) (_:nmT t) (E:Env) (y z:IV) (_:IsEnv M E y z) (st:ISt),
 ICall prog gl 172 [.cptr (.agg cs),x,y,z] st (fun r st'=>r=.raw (.int .i64 (M.val E.reverse t:Int))∧st'=st)
theorem zVn (M:Mo)(hO:MoOk M)(us:List Tm)(IH:∀ a∈us,VAL gl M a)(cs:List IV)(hM:IsMo M cs)(tg:Tag)(xs:List IV)(htg:okEs tg 3)(hxs:IsTms us xs)(hnm:nmTs us)(hlen:us.length≤40)(E:Env)(y z:IV)(hE:IsEnv M E y z)(st:ISt) :
  ICall prog gl 126 [.cptr (.agg cs),.sl tg xs,y,z] st (fun r st'=>r=.raw (.int .i64 (M.idx E.reverse us 0:Int))∧st'=st):=by
 have hpw:∀ k,k≤40→2 ^ k≤1099511627776:=fun k hk=>by
  have h2:2 ^ k≤2 ^ 40:=Nat.pow_le_pow_right (by omega) hk
  have h3:(2:Nat) ^ 40=1099511627776:=by decide
  omega
 have hM0:=hM
 have hE0:=hE
 obtain⟨t1,x1,t2,t3,rfl,_⟩:=hM
 obtain⟨t4,rfl,_⟩:=hE.y
 obtain⟨t5,rfl,_⟩:=hE.z
 refine iI func126 rfl rfl (by kernel_rfl) ?_
 simp(config:=zzC)only[go_sem,fits]
 refine LoopC.ctr us.length (fun k fr st' ds=>fr 0=.iv (.cptr (.agg [.sl t1 x1,.raw (.int .i64 (M.elems:Int)),.sl t2 (M.syms.map fun p=>.raw (.string p.1)),.sl t3 (M.syms.map fun p=>.raw (.int .i64 (p.2:Int))),.raw (.int .i64 (M.bits:Int)),.raw (.int .i64 (M.table:Int))]))∧fr 1=.iv (.sl tg xs)∧fr 2=.iv (.sl t4 (E.map fun p=>.raw (.string p.1)))∧fr 3=.iv (.sl t5 (E.map fun p=>.raw (.int .i64 (p.2:Int)))) ∧
  fr 9=.iv (.raw (.int .i64 ((M.idx E.reverse (us.take k) 0:Nat):Int)))∧fr 10=.iv (.raw (.int .i64 (k:Int)))∧st'=st∧ds=[]) ?_ ?_ ?_
 ·simp(config:=zzC)only[go_sem]
  exact⟨by simp[Mo.idx],rfl⟩
 ·rintro k fr _ _ hlt ⟨f0,f1,f2,f3,f9,f10,rfl,rfl⟩
  obtain⟨a,ha⟩:=yQ5 hlt
  obtain⟨x,hkx,hx⟩:=hxs.get ha
  have hcall:=IH a (lMg ha) _ hM0 x hx (xK9 hnm (lMg ha)) E _ _ hE0
  obtain⟨v2,n2,tx,cx,rfl⟩:=wJ0 hx
  have h1:=wQn M hO hE0.lt (us.take k)
  have h2:=hpw (us.take k).length (by rw[List.length_take]; omega)
  have h3:=wVn M hO hE0.lt a
  have h4:=hO.el
  have h5:M.idx E.reverse (us.take k) 0*M.elems≤M.idx E.reverse (us.take k) 0*2:=Nat.mul_le_mul_left _ h4.2
  have hmul:IntKind.i64.wrap (((M.idx E.reverse (us.take k) 0:Nat):Int)*(M.elems:Int))=((M.idx E.reverse (us.take k) 0*M.elems:Nat):Int):=by rw[← Int.natCast_mul,w64]<;>omega
  have hadd:IntKind.i64.wrap (((M.idx E.reverse (us.take k) 0*M.elems:Nat):Int)+(M.val E.reverse a:Int))=((M.idx E.reverse (us.take (k+1)) 0:Nat):Int):=by
   rw[yQ6 ha,zYd,w64]<;>omega
  simp(config:=zzC)only[go_sem,f0,f1,f2,f3,f9,f10,hxs.len,lt_i hlt,yQ1 htg,iNn,hkx,fits,hmul]
  intros
  refine (hcall _).mono ?_
  rintro _ _ ⟨rfl,rfl⟩
  simp(config:=zzC)only[go_sem,f0,f1,f2,f3,f9,f10,fits,hadd,yQf hlt (show us.length≤281474976710656 by omega)]
 ·rintro fr _ _ ⟨f0,f1,f2,f3,f9,f10,rfl,rfl⟩
  rw[lTl] at f9
  simp(config:=zzC)only[go_sem,f1,f9,f10,hxs.len,yQt (nLi _)]
  intros
  exact yQ0 ⟨rfl,rfl⟩
theorem xWo (l:Env)(n:ByteArray)(j:Nat)(p:ByteArray×Nat)(h:l[j]?=some p):yVf (l.drop j) n=if p.1=n then some p.2 else yVf (l.drop (j+1)) n:=by
 have hlt:=(lGs h).1
 rw[List.drop_eq_getElem_cons hlt,(lGs h).2]
 unfold yVf
 rw[List.find?_cons]
 by_cases hp:p.1=n
 ·rw[if_pos hp,dEt hp]; rfl
 ·rw[if_neg hp,dEf hp]
theorem xVt (M:Mo)(hO:MoOk M)(v:Bool)(n:ByteArray)(us:List Tm)(IH:∀ a∈us,VAL gl M a):VAL gl M (.mk v n us):=by
 intro cs hM x hx hnm E y z hE st
 simp only[nmT] at hnm
 have hO4:=hO.el
 have hIx:=fun tg xs htg hxs st=>zVn gl M hO us IH cs hM tg xs htg hxs hnm.2.2 hnm.2.1 E y z hE st
 have hkv:=fun st=>wK1 gl 118 0 (by omega) n hnm.1 st
 have hkf:=fun st=>wK1 gl 102 us.length (by omega) n hnm.1 st
 have hbi:=fun k i hi st=>wU9 gl M cs hM hO k i hi st
 simp only[show (((118:UInt8).toNat:Nat):Int)=118 from rfl,show ((0:Nat):Int)=0 from rfl] at hkv
 simp only[show (((102:UInt8).toNat:Nat):Int)=102 from rfl] at hkf
 have hnz:(((M.elems:Nat):Int)=0)=False:=eq_false (by omega)
 have htm:∀ b:Nat,((b:Nat):Int).tmod (M.elems:Int)=((b % M.elems:Nat):Int):=fun b=>by rw[Int.tmod_eq_emod_of_nonneg (by omega)]; rfl
 have hil:=wQn M hO hE.lt us
 have hpw:2 ^ us.length≤2 ^ 40:=Nat.pow_le_pow_right (by omega) hnm.2.1
 have h40:(2:Nat) ^ 40=1099511627776:=by decide
 obtain⟨tx,cx,rfl,htx,hcx⟩:=hx.mk
 have hIx:=fun st=>hIx tx cx htx hcx st
 obtain⟨t1,x1,t2,t3,rfl,_⟩:=hM
 obtain⟨t4,rfl,e4⟩:=hE.y
 obtain⟨t5,rfl,e5⟩:=hE.z
 unfold Mo.val
 refine ICall.intro (c:=cf prog gl [] [(7,[0,1,2,5,6,7,8,3,4,9,10]),(8,[0,1,2,3,4,5,7,8,9,10,11,14,15,16,17,6,12,13,18,19])]) func172 rfl (by show _≤59; simp) (by kernel_rfl) ?_
 cases v
 ·simp(config:=zzC)only[go_sem,fits,hcx.len]
  intros
  refine (hkf _).mono ?_
  rintro _ st ⟨rfl,rfl⟩
  simp(config:=zzC)only[go_sem,fits]
  refine (hIx _).mono ?_
  rintro _ st ⟨rfl,rfl⟩
  simp(config:=zzC)only[go_sem,fits]
  refine (hbi _ _ (by omega) _).mono ?_
  rintro _ st ⟨rfl,rfl⟩
  simp(config:=zzC)only[go_sem,fits,hnz,htm,Option.map_some]
  exact yQ0 ⟨rfl,rfl⟩
 ·have hEl:=hE.len
  have hw0:IntKind.i64.wrap ((E.length:Int) - 1)=(E.length:Int) - 1:=by rw[w64]<;>omega
  simp(config:=zzC)only[go_sem,fits,List.length_map,hw0]
  intros
  refine LoopC.ctr E.length (fun j fr st' ds=>yVf E.reverse n=yVf (E.reverse.drop j) n∧fr 0=.iv (.cptr (.agg [.sl t1 x1,.raw (.int .i64 (M.elems:Int)),.sl t2 (M.syms.map fun p=>.raw (.string p.1)),.sl t3 (M.syms.map fun p=>.raw (.int .i64 (p.2:Int))),.raw (.int .i64 (M.bits:Int)),.raw (.int .i64 (M.table:Int))]))∧fr 2=.iv (.sl t4 (E.map fun p=>.raw (.string p.1)))∧fr 3=.iv (.sl t5 (E.map fun p=>.raw (.int .i64 (p.2:Int)))) ∧
   fr 5=.box [.raw (.bool true),.raw (.string n),.sl tx cx]∧fr 9=.iv (.raw (.int .i64 ((E.length:Int) - 1 - (j:Int))))∧st'=st∧ds=[]) ?_ ?_ ?_
  ·simp(config:=zzC)only[go_sem]
   simp
  ·rintro j fr _ _ hlt ⟨hlk,f0,f2,f3,f5,f9,rfl,rfl⟩
   have hi:(E.length:Int) - 1 - (j:Int)=((E.length - 1 - j:Nat):Int):=by omega
   have hw1:IntKind.i64.wrap (((E.length - 1 - j:Nat):Int) - 1)=(E.length:Int) - 1 - ((j+1:Nat):Int):=by rw[w64]<;>omega
   rw[hi] at f9
   obtain⟨p,hp⟩:=yQ5 (show E.length - 1 - j<E.length by omega)
   have hpr:E.reverse[j]?=some p:=by rw[List.getElem?_reverse hlt]; exact hp
   have h1:(E.map fun p=>IV.raw (.string p.1))[E.length - 1 - j]?=some (.raw (.string p.1)):=by rw[List.getElem?_map,hp]; rfl
   have h2:(E.map fun p=>IV.raw (.int .i64 (p.2:Int)))[E.length - 1 - j]?=some (.raw (.int .i64 (p.2:Int))):=by rw[List.getElem?_map,hp]; rfl
   rw[xWo _ n j p hpr] at hlk
   have hge:decide ((0:Int)≤((E.length - 1 - j:Nat):Int))=true:=dEt (by omega)
   by_cases hk:p.1=n
   ·rw[if_pos hk] at hlk
    simp(config:=zzC)only[go_sem,f0,f2,f3,f5,f9,fits,decide_true,yQ1 e4,yQ1 e5,iNn,h1,h2,dEt hk]
    intros
    exact yQ0 ⟨by rw[hlk],rfl⟩
   ·rw[if_neg hk] at hlk
    simp(config:=zzC)only[go_sem,f0,f2,f3,f5,f9,fits,decide_true,yQ1 e4,iNn,h1,dEf hk,hw1]
    exact hlk
  ·rintro fr _ _ ⟨hlk,f0,f2,f3,f5,f9,rfl,rfl⟩
   rw[show E.reverse.drop E.length=[] by rw[← List.length_reverse,List.drop_length]] at hlk
   have hge:decide ((0:Int)≤(E.length:Int) - 1 - (E.length:Int))=false:=dEf (by omega)
   simp(config:=zzC)only[go_sem,f0,f2,f3,f5,f9,fits,hge]
   refine (hkv _).mono ?_
   rintro _ st ⟨rfl,rfl⟩
   simp(config:=zzC)only[go_sem,f0,f5,fits]
   refine (hbi _ 0 (by omega) _).mono ?_
   rintro _ st ⟨rfl,rfl⟩
   simp(config:=zzC)only[go_sem,f0,f5,fits,hnz,htm,Option.map_some]
   refine yQ0 ⟨?_,rfl⟩
   rw[hlk]
   rfl
theorem zG5 (M:Mo)(hO:MoOk M):∀ (k:Nat) (t:Tm),SizeOf.sizeOf t<k→VAL gl M t
 | 0,t,h=>by omega
 | k+1,.mk v n us,h=>xVt gl M hO v n us fun a ha=>zG5 M hO k a (by
   have:=lSm ha
   simp at h; omega)
theorem wGi (M:Mo)(hO:MoOk M)(us:List Tm)(cs:List IV)(hM:IsMo M cs)(tg:Tag)(xs:List IV)(htg:okEs tg 3)(hxs:IsTms us xs)(hnm:nmTs us)(hlen:us.length≤40)(E:Env)(y z:IV)(hE:IsEnv M E y z)(st:ISt) :
  ICall prog gl 126 [.cptr (.agg cs),.sl tg xs,y,z] st (fun r st'=>r=.raw (.int .i64 (M.idx E.reverse us 0:Int))∧st'=st) :=
 zVn gl M hO us (fun a _=>zG5 gl M hO _ a (Nat.lt_succ_self _)) cs hM tg xs htg hxs hnm hlen E y z hE st
end Go.Proofs.Tryz
namespace Go.Proofs.Tryz
open Go Go.Iv
mutual
def opsB (ca:Nat):Fm→Bool
 | .mk op _ us sub=>decide (1≤op)&&decide (op≤if ca=3 then 9 else 7)&&(decide (ca=3) || us.isEmpty)&&yK3 ca sub
def yK3 (ca:Nat):List Fm→Bool
 | []=>true
 | a::l=>opsB ca a&&yK3 ca l
end
def fmB (ca:Nat)(f:Fm):Bool:=f.right&&opsB ca f
def yKe (ca:Nat):Bool:=decide (1≤ca)&&decide (ca≤3)
noncomputable def eqF (a b:Fm):Bool:=decide (a.op=b.op)&&zW4 a b
noncomputable def hasF (l:List Fm)(f:Fm):Bool:=l.any (eqF f)
noncomputable def allF (l m:List Fm):Bool:=l.all (hasF m)
noncomputable def yKk (a b:Sq):Bool:=allF a.l b.l&&allF a.r b.r
noncomputable def yWk:List Fm→Bool
 | []=>true
 | a::l=>(a::l).all fun f=>eqF f a
noncomputable def yXe (ca:Nat)(s:Sq):Bool :=
 yKe ca&&decide (s.l.length≤64)&&decide (s.r.length≤64)&&s.l.all (fmB ca)&&s.r.all (fmB ca)&&(decide (ca≠2) || yWk s.r)
structure Rw where
 left:Bool
 right:Bool
 op:Nat
 asks:Nat
def rowK (rule:Nat):Option Rw :=
 if rule=1 then some ⟨true,true,0,0⟩ else if rule=2 then some ⟨true,false,2,0⟩ else if rule=3 then some ⟨true,false,3,0⟩ else if rule=4 then some ⟨false,true,3,0⟩
 else if rule=5 then some ⟨true,false,4,0⟩ else if rule=6 then some ⟨false,true,4,0⟩ else if rule=7 then some ⟨true,false,5,0⟩ else if rule=8 then some ⟨false,true,5,0⟩
 else if rule=9 then some ⟨true,false,6,0⟩ else if rule=10 then some ⟨false,true,6,0⟩ else if rule=11 then some ⟨true,false,7,0⟩ else if rule=12 then some ⟨false,true,7,0⟩
 else if rule=17 then some ⟨false,false,0,0⟩ else none
def rowS (ca rule:Nat):Option Rw :=
 if ca=2∧rule=18 then some ⟨false,true,5,0⟩
 else if ca=3∧rule=13 then some ⟨true,false,8,1⟩ else if ca=3∧rule=14 then some ⟨false,true,8,2⟩
 else if ca=3∧rule=15 then some ⟨true,false,9,2⟩ else if ca=3∧rule=16 then some ⟨false,true,9,1⟩ else rowK rule
def bE:ByteArray:=⟨#[]⟩
def impF (a b:Fm):Fm:=.mk 6 bE [] [a,b]
def addS (ca rule:Nat)(main a b:Fm):List Sq :=
 if rule=3 then [⟨[],[a]⟩] else if rule=4 then [⟨[a],[]⟩] else if rule=5 then [⟨[a,b],[]⟩] else if rule=6 then [⟨[],[a]⟩,⟨[],[b]⟩]
 else if rule=7 then [⟨[a],[]⟩,⟨[b],[]⟩] else if rule=8 then (if ca=2 then [⟨[],[a]⟩] else [⟨[],[a,b]⟩]) else if rule=9 then [⟨[],[a]⟩,⟨[b],[]⟩]
 else if rule=10 then [⟨[a],[b]⟩] else if rule=11 then [⟨[impF a b,impF b a],[]⟩] else if rule=12 then [⟨[a],[b]⟩,⟨[b],[a]⟩]
 else if rule=13 then [⟨[a],[]⟩] else if rule=14 then [⟨[],[a]⟩] else if rule=15 then [⟨[a],[]⟩] else if rule=16 then [⟨[],[a]⟩]
 else if rule=17 then [⟨[],[main]⟩,⟨[main],[]⟩] else if rule=18 then [⟨[],[b]⟩] else []
noncomputable def yXw (ca rule:Nat)(r:Rw)(main:Fm)(term:Tm)(name:ByteArray):List Sq×Nat :=
 if !fmB ca main || (decide (r.op≠0)&&decide (main.op≠r.op)) then ([],192)
 else
  let a:=(main.subs[0]?).getD fm0
  let b:=(main.subs[1]?).getD fm0
  if r.asks=0 then (addS ca rule main a b,0)
  else
   let t:=if r.asks=2 then .mk true name [] else term
   if !t.ok then ([],193)
   else if (yZg a [(main.nm,t)]).2≠0 then ([],193) else (addS ca rule main (yZg a [(main.nm,t)]).1 b,0)
noncomputable def yJt (s:Sq)(n:ByteArray):Bool:=s.l.any (fun f=>memB (frF f) n) || s.r.any (fun f=>memB (frF f) n)
noncomputable def yZv (ca:Nat)(s:Sq)(rule:Nat)(main:Fm)(term:Tm)(name:ByteArray):List Sq×Nat :=
 if !yXe ca s then ([],190)
 else match rowS ca rule with
  | none=>([],191)
  | some r =>
   if decide ((yXw ca rule r main term name).2=192) || (r.left&&!hasF s.l main) || (r.right&&!hasF s.r main) then ([],192)
   else if (yXw ca rule r main term name).2≠0 then ([],(yXw ca rule r main term name).2)
   else if decide (r.asks=2)&&yJt s name then ([],193)
   else ((yXw ca rule r main term name).1,0)
noncomputable def yJ6 (s:Sq):List Sq→List Tr→Bool
 | m::l,t::ts=>yKk t.sq (s.plus m)&&yJ6 s l ts
 | _,_=>true
noncomputable def yZn (ca:Nat):Tr→Nat
 | .mk rule s main term name sub =>
  if (yZv ca s rule main term name).2≠0 then (yZv ca s rule main term name).2
  else if sub.length≠(yZv ca s rule main term name).1.length then 194
  else if yJ6 s (yZv ca s rule main term name).1 sub then 0 else 195
noncomputable def yXx (ca:Nat)(t:Tr):List Nat×Nat :=
 if !yKe ca then ([],2) else if 300<t.steps then ([],5) else yZb (yZn ca) (t.walk [])
end Go.Proofs.Tryz
namespace Go.Proofs.Tryz
open Go Go.Iv
theorem zXc {ca:Nat}{s:Sq}{rule:Nat}{main:Fm}{term:Tm}{name:ByteArray}(h:(yZv ca s rule main term name).2=0):yXe ca s=true:=by
 unfold yZv at h
 split at h
 ·simp at h
 ·rename_i hv
  simpa using hv
theorem xQ5 {ca:Nat}{rule:Nat}{s:Sq}{main:Fm}{term:Tm}{name:ByteArray}{sub:List Tr}(h:yZn ca (.mk rule s main term name sub)=0):yXe ca s=true:=by
 simp only[yZn] at h
 split at h
 ·rename_i h1; exact absurd h h1
 ·rename_i h1
  exact zXc (Decidable.not_not.1 h1)
end Go.Proofs.Tryz
namespace Go.Proofs.Tryz
open Go Go.Iv
theorem yVm {a b:Fm}:eqF a b=true↔a.op=b.op∧a.right=true∧b.right=true∧dbF [] a=dbF [] b:=by
 unfold eqF zW4
 simp only[bAt,dTe,yZ7,and_assoc]
theorem xV8 {a:Fm}(h:a.right=true):eqF a a=true:=yVm.2 ⟨rfl,h,h,rfl⟩
theorem wKe {a b:Fm}(h:eqF a b=true):eqF b a=true:=by
 obtain⟨h1,h2,h3,h4⟩:=yVm.1 h
 exact yVm.2 ⟨h1.symm,h3,h2,h4.symm⟩
theorem wZi {a b c:Fm}(h:eqF a b=true)(k:eqF b c=true):eqF a c=true:=by
 obtain⟨h1,h2,_,h4⟩:=yVm.1 h
 obtain⟨k1,_,k3,k4⟩:=yVm.1 k
 exact yVm.2 ⟨h1.trans k1,h2,k3,h4.trans k4⟩
theorem yKf {l:List Fm}{f:Fm}:hasF l f=true↔∃ g∈l,eqF f g=true:=by simp[hasF]
theorem xQb {l m:List Fm}:allF l m=true↔∀ f∈l,hasF m f=true:=by simp[allF]
theorem zUr {l:List Fm}(hr:∀ f∈l,f.right=true):yWk l=true↔∀ f∈l,∀ g∈l,eqF f g=true:=by
 cases l with
 | nil=>simp[yWk]
 | cons a l =>
  simp only[yWk,List.all_eq_true]
  exact⟨fun h f hf g hg=>wZi (h f hf) (wKe (h g hg)),fun h f hf=>h f hf a (List.mem_cons_self ..)⟩
end Go.Proofs.Tryz
namespace Go.Proofs.Tryz
open Go Go.Iv
theorem wJ5 {ca:Nat}{s:Sq}{rule:Nat}{main:Fm}{term:Tm}{name:ByteArray}{r:Rw}(h1:yXe ca s=true)(h2:rowS ca rule=some r)(h3:(yXw ca rule r main term name).2=0)
  (h4:r.left=true→hasF s.l main=true) (h5:r.right=true→hasF s.r main=true) (h6:r.asks=2→yJt s name=false):yZv ca s rule main term name=((yXw ca rule r main term name).1,0):=by
 unfold yZv
 have e1:(r.left&&!hasF s.l main)=false:=by
  cases hl:r.left
  ·rfl
  ·rw[h4 hl]; rfl
 have e2:(r.right&&!hasF s.r main)=false:=by
  cases hl:r.right
  ·rfl
  ·rw[h5 hl]; rfl
 have e3:(decide (r.asks=2)&&yJt s name)=false:=by
  by_cases hl:r.asks=2
  ·rw[h6 hl]; simp
  ·simp[hl]
 simp only[h1,h2,h3,e1,e2,e3,Bool.not_true,bFt,if_false,Bool.or_false,dTe,ne_eq,nTf]
 rw[if_neg (by decide)]
theorem xVx {ca:Nat}{s:Sq}{rule:Nat}{main:Fm}{term:Tm}{name:ByteArray}(h:(yZv ca s rule main term name).2=0) :
  ∃ r,yXe ca s=true∧rowS ca rule=some r∧(yXw ca rule r main term name).2=0∧(r.left=true→hasF s.l main=true)∧(r.right=true→hasF s.r main=true)∧(r.asks=2→yJt s name=false) ∧
   yZv ca s rule main term name=((yXw ca rule r main term name).1,0):=by
 have hv:=zXc h
 cases hr:rowS ca rule with
 | none=>unfold yZv at h; rw[hv,hr] at h; simp at h
 | some r =>
  have key:(yXw ca rule r main term name).2=0∧(r.left&&!hasF s.l main)=false∧(r.right&&!hasF s.r main)=false∧(decide (r.asks=2)&&yJt s name)=false:=by
   unfold yZv at h
   rw[hv,hr] at h
   simp only[Bool.not_true,bFt,if_false] at h
   split at h
   ·simp at h
   ·rename_i h1
    simp only[Bool.or_eq_true,not_or,Bool.not_eq_true] at h1
    split at h
    ·rename_i h2; exact absurd h h2
    ·rename_i h2
     split at h
     ·simp at h
     ·rename_i h3
      exact⟨Decidable.not_not.1 h2,h1.1.2,h1.2,by simpa using h3⟩
  obtain⟨k1,k2,k3,k4⟩:=key
  have q4:r.left=true→hasF s.l main=true:=fun hl=>by rw[hl] at k2; simpa using k2
  have q5:r.right=true→hasF s.r main=true:=fun hl=>by rw[hl] at k3; simpa using k3
  have q6:r.asks=2→yJt s name=false:=fun hl=>by rw[hl] at k4; simpa using k4
  exact⟨r,hv,rfl,k1,q4,q5,q6,wJ5 hv hr k1 q4 q5 q6⟩
section
variable {ca rule:Nat}{s:Sq}{f:Fm}{u:Tm}{n:ByteArray}{sub:List Tr}(h:(yXx ca (.mk rule s f u n sub)).2=0)(h1:s.l.length<64)(h2:s.r.length<64)
include h h1 h2
end
end Go.Proofs.Tryz
namespace Go.Proofs.Tryz
open Go Go.Iv
theorem xXl {ca rule:Nat}{s:Sq}{f:Fm}{u:Tm}{n:ByteArray}{sub:List Tr}(hc:yZn ca (.mk rule s f u n sub)=0) :
  (yZv ca s rule f u n).2=0∧sub.length=(yZv ca s rule f u n).1.length∧yJ6 s (yZv ca s rule f u n).1 sub=true:=by
 simp only[yZn] at hc
 split at hc
 ·rename_i q; exact absurd hc q
 ·rename_i q
  split at hc
  ·simp at hc
  ·rename_i q2
   split at hc
   ·rename_i q3; exact⟨Decidable.not_not.1 q,Decidable.not_not.1 q2,q3⟩
   ·simp at hc
section
variable {ca rule:Nat}{s:Sq}{f:Fm}{u:Tm}{n:ByteArray}{sub:List Tr}(h:(yXx ca (.mk rule s f u n sub)).2=0)
include h
end
end Go.Proofs.Tryz
namespace Go.Proofs.Tryz
open Go Go.Iv
theorem yJh:∀ {l:List Fm}{g:Fm},g∈l→g.size≤yQ7 l
 | a::l,g,hg=>by
  simp only[yQ7]
  rcases List.mem_cons.1 hg with rfl | hg
  ·omega
  ·have:=yJh hg; omega
theorem zJl:∀ {l:List Fm}{g:Fm},g∈l→g.deep≤yZ1 l
 | a::l,g,hg=>by
  simp only[yZ1]
  rcases List.mem_cons.1 hg with rfl | hg
  ·omega
  ·have:=zJl hg; omega
theorem zGy {ca:Nat}:∀ {l:List Fm} {g:Fm},yK3 ca l=true→g∈l→opsB ca g=true
 | a::l,g,h,hg=>by
  simp only[yK3,bAt] at h
  rcases List.mem_cons.1 hg with rfl | hg
  ·exact h.1
  ·exact zGy h.2 hg
theorem yXo {ca:Nat}{f:Fm}:fmB ca f=true↔f.ok=true∧f.size≤400∧f.deep≤40∧opsB ca f=true:=by
 unfold fmB Fm.right
 simp only[bAt,dTe,and_assoc]
theorem wKb {ca op:Nat}{n:ByteArray}{us:List Tm}{sub:List Fm}(h:fmB ca (.mk op n us sub)=true){g:Fm}(hg:g∈sub):fmB ca g=true:=by
 obtain⟨h1,h2,h3,h4⟩:=yXo.1 h
 simp only[Fm.ok,bAt] at h1
 simp only[Fm.size] at h2
 simp only[Fm.deep] at h3
 simp only[opsB,bAt] at h4
 have:=yJh hg
 have:=zJl hg
 exact yXo.2 ⟨yXj h1.2 hg,by omega,by omega,zGy h4.2 hg⟩
theorem wGp {ca:Nat}{n:ByteArray}{us:List Tm}{a b:Fm}(h:fmB ca (.mk 7 n us [a,b])=true):fmB ca (impF a b)=true∧fmB ca (impF b a)=true:=by
 obtain⟨h1,h2,h3,h4⟩:=yXo.1 h
 simp only[Fm.ok,yJy,bAt] at h1
 simp only[Fm.size,yQ7] at h2
 simp only[Fm.deep,yZ1] at h3
 simp only[opsB,yK3,bAt] at h4
 have key:∀ x y:Fm,x.ok=true→y.ok=true→opsB ca x=true→opsB ca y=true→x.size+y.size+1≤400→max x.deep y.deep+1≤40→fmB ca (impF x y)=true:=fun x y q1 q2 q3 q4 q5 q6=>by
  refine yXo.2 ⟨?_,?_,?_,?_⟩
  ·simp[impF,Fm.ok,yJy,yKr,yJo,q1,q2,bE]
  ·simp only[impF,Fm.size,yQ7,yQe]; omega
  ·simp only[impF,Fm.deep,yZ1,yQv]; omega
  ·simp only[impF,opsB,yK3,q3,q4,List.isEmpty_nil,Bool.or_true,Bool.and_true,bAt,dTe]
   refine⟨by omega,?_⟩
   split<;>omega
 exact⟨key a b h1.2.1 h1.2.2.1 h4.2.1 h4.2.2.1 (by omega) (by omega),key b a h1.2.2.1 h1.2.1 h4.2.2.1 h4.2.1 (by omega) (by omega)⟩
mutual
theorem zGz:∀ (f:Fm)(ps:Sb),opsB 3 (yXr ps f)=opsB 3 f
 | .mk op m us sub,ps=>by
  simp only[yXr,opsB,zVc sub,decide_true,Bool.true_or]
theorem zVc:∀ (l:List Fm)(ps:Sb),yK3 3 (yJ7 ps l)=yK3 3 l
 | [],_=>rfl
 | a::l,ps=>by simp only[yJ7,yK3,zGz a,zVc l]
end
end Go.Proofs.Tryz
