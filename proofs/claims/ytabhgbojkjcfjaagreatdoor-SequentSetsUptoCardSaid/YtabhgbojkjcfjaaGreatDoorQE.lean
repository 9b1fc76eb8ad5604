/- The fixed data of lyceumlaw19's awake, c -/
import Derived.Test.YtabhgbojkjcfjaaGreatDoorQD
import Derived.Test.YtabhgbojkjcfjaaGreatDoorLD
import Derived.Test.YtabhgbojkjcfjaaGreatDoorKE
import Derived.Deep.DeepHandedRow
set_option linter.all false
open Nat renaming reduceEqDiff → zE,reduceBEq → zB,reduceAdd → zA,reduceMul → zM,reduceSub → zS,reduceLeDiff → zL
namespace Go.Proofs.Tryz
open Go Go.Iv
set_option maxRecDepth 8000
theorem yKc {ca:Nat}{s:Sq}{rule:Nat}{main:Fm}{term:Tm}{name:ByteArray}{r:Rw}{ad:List Sq}(h1:yXr ca s=true)(h2:rowS ca rule=some r)(h3:yV1 ca rule r main term name=(ad,0))
  (h4:r.left=true->hasF s.l main=true) (h5:r.right=true->hasF s.r main=true) (h6:r.asks≠2):yXw ca s rule main term name=(ad,0):=by
 unfold yXw;rw[h1,h2];simp only[Bool.not_true,bFt,if_false,h3];obtain⟨rl,rr,op,asks⟩:=r;simp only at h4 h5 h6 ⊢;have e1:(rl&&!hasF s.l main)=false:=by
  cases rl
  ·rfl
  ·rw[h4 rfl];rfl
 have e2:(rr&&!hasF s.r main)=false:=by
  cases rr
  ·rfl
  ·rw[h5 rfl];rfl
 rw[e1,e2,dEf h6];rfl
theorem yXq {l:List Fm}{f:Fm}(h:f∈l)(hr:f.right=true):hasF l f=true:=xQs.2 ⟨f,h,xVy hr⟩
def zP:Fm:=.mk 1 ⟨#[80]⟩ [] []
def zQ:Fm:=.mk 1 ⟨#[81]⟩ [] []
def zI:Fm:=.mk 6 ⟨#[]⟩ [] [zP,zQ]
def tm0:Tm:=.mk false ⟨#[]⟩ []
def trP:Tr:=.mk 1 ⟨[zP,zI],[zP]⟩ zP tm0 ⟨#[]⟩ []
def trQ:Tr:=.mk 1 ⟨[zP,zQ],[zQ]⟩ zQ tm0 ⟨#[]⟩ []
def trA:Tr:=.mk 9 ⟨[zP,zI],[zQ]⟩ zI tm0 ⟨#[]⟩ [trP,trQ]
def row1:Rw:=⟨true,true,0,0⟩
def row9:Rw:=⟨true,false,6,0⟩
theorem yGi {f:Fm}(h:f.right=true):zZa [f]=true:=by simp[zZa,xVy h]
theorem zQr {s:Sq}(h:(decide (s.l.length<=64)&&decide (s.r.length<=64)&&s.l.all (fmB 1)&&s.r.all (fmB 1))=true):yXr 1 s=true:=by
 unfold yXr;rw[show yJm 1=true from rfl,Bool.true_and,h];rfl
theorem zY2 {s:Sq}(h:(decide (s.l.length<=64)&&decide (s.r.length<=64)&&s.l.all (fmB 2)&&s.r.all (fmB 2))=true)(h2:zZa s.r=true):yXr 2 s=true:=by
 unfold yXr;rw[show yJm 2=true from rfl,Bool.true_and,h,h2];rfl
theorem wY8:yXw 1 ⟨[zP,zI],[zP]⟩ 1 zP tm0 ⟨#[]⟩=([],0):=yKc (r:=row1) (zQr (by decide)) rfl (by rfl) (λ_=>yXq (by simp) (by decide)) (λ_=>yXq (by simp) (by decide)) (by decide)
theorem wY7:yXw 2 ⟨[zP,zI],[zP]⟩ 1 zP tm0 ⟨#[]⟩=([],0):=yKc (r:=row1) (zY2 (by decide) (yGi (by decide))) rfl (by rfl) (λ_=>yXq (by simp) (by decide)) (λ_=>yXq (by simp) (by decide)) (by decide)
theorem wY6:yXw 1 ⟨[zP,zQ],[zQ]⟩ 1 zQ tm0 ⟨#[]⟩=([],0):=yKc (r:=row1) (zQr (by decide)) rfl (by rfl) (λ_=>yXq (by simp) (by decide)) (λ_=>yXq (by simp) (by decide)) (by decide)
theorem wY5:yXw 2 ⟨[zP,zQ],[zQ]⟩ 1 zQ tm0 ⟨#[]⟩=([],0):=yKc (r:=row1) (zY2 (by decide) (yGi (by decide))) rfl (by rfl) (λ_=>yXq (by simp) (by decide)) (λ_=>yXq (by simp) (by decide)) (by decide)
theorem wYd:yXw 1 ⟨[zP,zI],[zQ]⟩ 9 zI tm0 ⟨#[]⟩=([⟨[],[zP]⟩,⟨[zQ],[]⟩],0):=yKc (r:=row9) (zQr (by decide)) rfl (by rfl) (λ_=>yXq (by simp) (by decide)) (λh=>by cases h) (by decide)
theorem wYc:yXw 2 ⟨[zP,zI],[zQ]⟩ 9 zI tm0 ⟨#[]⟩=([⟨[],[zP]⟩,⟨[zQ],[]⟩],0):=yKc (r:=row9) (zY2 (by decide) (yGi (by decide))) rfl (by rfl) (λ_=>yXq (by simp) (by decide)) (λh=>by cases h) (by decide)
theorem yUm {l m:List Fm}(h:∀f∈l,f∈m/\f.right=true):allF l m=true:=List.all_eq_true.2 λf hf=>yXq (h f hf).1 (h f hf).2
theorem yK3 {ca rule:Nat}{s:Sq}{main:Fm}{term:Tm}{name:ByteArray}{sub:List Tr}{ad:List Sq}(h:yXw ca s rule main term name=(ad,0))(hl:sub.length=ad.length)(hp:yJs s ad sub=true):yJ4 ca (.mk rule s main term name sub)=0:=by
 simp only[yJ4];rw[h];simp only[ne_eq,nTf,if_false,hl,hp,if_true]
theorem zQw:zP.right=true:=by decide
theorem xUi:zQ.right=true:=by decide
theorem wYo:zI.right=true:=by decide
theorem xUp:yJs ⟨[zP,zI],[zQ]⟩ [⟨[],[zP]⟩,⟨[zQ],[]⟩] [trP,trQ]=true:=by
 have a1:allF [zP,zI] [zP,zI]=true:=yUm λf hf=>by
  simp only[List.mem_cons,List.not_mem_nil,or_false] at hf;rcases hf with rfl|rfl
  ·exact⟨by simp,zQw⟩
  ·exact⟨by simp,wYo⟩
 have a2:allF [zP] [zQ,zP]=true:=yUm λf hf=>by
  simp only[List.mem_cons,List.not_mem_nil,or_false] at hf;subst hf;exact⟨by simp,zQw⟩
 have a3:allF [zP,zQ] [zP,zI,zQ]=true:=yUm λf hf=>by
  simp only[List.mem_cons,List.not_mem_nil,or_false] at hf;rcases hf with rfl|rfl
  ·exact⟨by simp,zQw⟩
  ·exact⟨by simp,xUi⟩
 have a4:allF [zQ] [zQ]=true:=yUm λf hf=>by
  simp only[List.mem_cons,List.not_mem_nil,or_false] at hf;subst hf;exact⟨by simp,xUi⟩
 simp only[yJs,trP,trQ,Tr.sq,Sq.plus,yJa,List.append_nil,List.cons_append,List.nil_append,a1,a2,a3,a4,Bool.and_self]
theorem wKs:yJ4 1 trA=0:=yK3 wYd rfl xUp
theorem wKr:yJ4 2 trA=0:=yK3 wYc rfl xUp
theorem wKn:yJ4 1 trP=0:=yK3 wY8 rfl rfl
theorem wKm:yJ4 2 trP=0:=yK3 wY7 rfl rfl
theorem wKl:yJ4 1 trQ=0:=yK3 wY6 rfl rfl
theorem wKk:yJ4 2 trQ=0:=yK3 wY5 rfl rfl
theorem wVf:trA.walk []=[([],trA),([0],trP),([1],trQ)]:=rfl
theorem wVd:yJp 1 trA=([],0):=by
 unfold yJp;rw[wVf];simp only[yZx,wKs,wKn,wKl,if_true];rfl
theorem wVc:yJp 2 trA=([],0):=by
 unfold yJp;rw[wVf];simp only[yZx,wKr,wKm,wKk,if_true];rfl
theorem wY4:trA.steps=3:=rfl
theorem wK5:trA.height=2:=rfl
theorem vJ9:trA.cuts=0:=rfl
def zN:Fm:=.mk 3 ⟨#[]⟩ [] [zP]
def zO:Fm:=.mk 5 ⟨#[]⟩ [] [zP,zN]
def trE1:Tr:=.mk 1 ⟨[zP],[zP]⟩ zP tm0 ⟨#[]⟩ []
def trE2:Tr:=.mk 4 ⟨[],[zP,zN]⟩ zN tm0 ⟨#[]⟩ [trE1]
def trE:Tr:=.mk 8 ⟨[],[zO]⟩ zO tm0 ⟨#[]⟩ [trE2]
theorem wYb:yXw 1 ⟨[zP],[zP]⟩ 1 zP tm0 ⟨#[]⟩=([],0):=yKc (r:=row1) (zQr (by decide)) rfl (by rfl) (λ_=>yXq (by simp) (by decide)) (λ_=>yXq (by simp) (by decide)) (by decide)
theorem wYa:yXw 1 ⟨[],[zP,zN]⟩ 4 zN tm0 ⟨#[]⟩=([⟨[zP],[]⟩],0):=yKc (r:=⟨false,true,3,0⟩) (zQr (by decide)) rfl (by rfl) (λh=>by cases h) (λ_=>yXq (by simp) (by decide)) (by decide)
theorem vZ1:yXw 1 ⟨[],[zO]⟩ 8 zO tm0 ⟨#[]⟩=([⟨[],[zP,zN]⟩],0):=yKc (r:=⟨false,true,5,0⟩) (zQr (by decide)) rfl (by rfl) (λh=>by cases h) (λ_=>yXq (by simp) (by decide)) (by decide)
theorem wY9:yXw 2 ⟨[],[zO]⟩ 8 zO tm0 ⟨#[]⟩=([⟨[],[zP]⟩],0):=yKc (r:=⟨false,true,5,0⟩) (zY2 (by decide) (yGi (by decide))) rfl (by rfl) (λh=>by cases h) (λ_=>yXq (by simp) (by decide)) (by decide)
theorem wYn:zN.right=true:=by decide
theorem vJp (l:List Fm):allF [zP,zN] (l++[zP,zN])=true:=yUm λf hf=>by
 simp only[List.mem_cons,List.not_mem_nil,or_false] at hf;rcases hf with rfl|rfl
 ·exact⟨by simp,zQw⟩
 ·exact⟨by simp,wYn⟩
theorem wKq:yJ4 1 trE1=0:=yK3 wYb rfl rfl
theorem wKp:yJ4 1 trE2=0:=yK3 wYa rfl (by
 have a1:allF [zP] [zP]=true:=yUm λf hf=>by
  simp only[List.mem_cons,List.not_mem_nil,or_false] at hf;subst hf;exact⟨by simp,zQw⟩
 have a2:allF [zP] [zP,zN]=true:=yUm λf hf=>by
  simp only[List.mem_cons,List.not_mem_nil,or_false] at hf;subst hf;exact⟨by simp,zQw⟩
 simp only[yJs,trE1,Tr.sq,Sq.plus,yJa,List.append_nil,List.nil_append,a1,a2,Bool.and_self])
theorem wGy:yJ4 1 trE=0:=yK3 vZ1 rfl (by
 have a1:allF [] []=true:=rfl;simp only[yJs,trE2,Tr.sq,Sq.plus,yJa,List.nil_append,a1,vJp [zO],Bool.and_self])
theorem wVe:trE.walk []=[([],trE),([0],trE2),([0,0],trE1)]:=rfl
theorem wVb:yJp 1 trE=([],0):=by
 unfold yJp;rw[wVe];simp only[yZx,wGy,wKq,wKp,if_true];rfl
theorem wKo:yJ4 2 trE=195:=by
 have h1:hasF [zO,zP] zN=false:=by
  simp[hasF,eqF,zN,zO,zP,Fm.op]
 have h2:yJs ⟨[],[zO]⟩ [⟨[],[zP]⟩] [trE2]=false:=by
  have h3:allF [zP,zN] [zO,zP]=false:=List.all_eq_false.2 ⟨zN,by simp,by rw[h1];simp⟩;simp only[yJs,trE2,Tr.sq,Sq.plus,yJa,List.cons_append,List.nil_append,h3,Bool.and_false,Bool.false_and]
 unfold trE;simp only[yJ4];rw[wY9];simp only[h2];rfl
theorem wVa:yJp 2 trE=([],195):=by
 unfold yJp;rw[wVe];simp only[yZx,wKo];rfl
theorem xKh {ca:Nat}{s:Sq}{rule:Nat}{main:Fm}{term:Tm}{name:ByteArray}{r:Rw}{ad:List Sq}(h1:yXr ca s=true)(h2:rowS ca rule=some r)(h3:yV1 ca rule r main term name=(ad,0))
  (h4:r.left=true->hasF s.l main=true) (h5:r.right=true->hasF s.r main=true) (h6:r.asks=2):yXw ca s rule main term name=if yY7 s name then ([],193) else (ad,0):=by
 unfold yXw;rw[h1,h2];simp only[Bool.not_true,bFt,if_false,h3];obtain⟨rl,rr,op,asks⟩:=r;simp only at h4 h5 h6 ⊢;have e1:(rl&&!hasF s.l main)=false:=by
  cases rl
  ·rfl
  ·rw[h4 rfl];rfl
 have e2:(rr&&!hasF s.r main)=false:=by
  cases rr
  ·rfl
  ·rw[h5 rfl];rfl
 rw[e1,e2,dEt h6,Bool.true_and];rfl
def qx:ByteArray:=⟨#[120]⟩
def qy:ByteArray:=⟨#[121]⟩
def qu:ByteArray:=⟨#[117]⟩
def zX:Fm:=.mk 8 qx [] [.mk 1 ⟨#[81]⟩ [.mk true qx []] []]
def zY:Fm:=.mk 9 qy [] [.mk 1 ⟨#[82]⟩ [.mk true qy [],.mk true qu []] []]
def zU:Fm:=.mk 1 ⟨#[81]⟩ [.mk true qu []] []
theorem wWk:yV1 3 14 ⟨false,true,8,2⟩ zX tm0 qu=([⟨[],[zU]⟩],0):=rfl
theorem xGi {s:Sq}(h:(decide (s.l.length<=64)&&decide (s.r.length<=64)&&s.l.all (fmB 3)&&s.r.all (fmB 3))=true):yXr 3 s=true:=by
 unfold yXr;rw[show yJm 3=true from rfl,Bool.true_and,h];rfl
theorem vK6:xK6 3 ⟨[zP],[zX]⟩ 14 zX tm0 qu=([⟨[zP],[zX,zU]⟩],0):=by
 have h:=xKh (ca:=3) (s:=⟨[zP],[zX]⟩) (rule:=14) (main:=zX) (term:=tm0) (name:=qu) (xGi (by decide)) rfl wWk (λh=>by cases h) (λ_=>yXq (by simp) (by decide)) rfl;have hf:yY7 ⟨[zP],[zX]⟩ qu=false:=by decide
 rw[hf] at h;unfold xK6;rw[h];rfl
theorem vK5:xK6 3 ⟨[zY],[zX]⟩ 14 zX tm0 qu=([],193):=by
 have h:=xKh (ca:=3) (s:=⟨[zY],[zX]⟩) (rule:=14) (main:=zX) (term:=tm0) (name:=qu) (xGi (by decide)) rfl wWk (λh=>by cases h) (λ_=>yXq (by simp) (by decide)) rfl;have hf:yY7 ⟨[zY],[zX]⟩ qu=true:=by decide
 rw[hf] at h;unfold xK6;rw[h];rfl
def zD:Fm:=.mk 4 ⟨#[]⟩ [] [zP,zQ]
theorem vZo:yXk zP=zP:=rfl
theorem vZp:yXk zD=zD:=rfl
theorem uWw:SetS ⟨[zD,zD,zP],[]⟩=(⟨[zP,zD],[]⟩,0):=by
 have hs:SetF [zD,zD,zP] [zP,zD]:=by
  refine⟨?_,λf=>?_⟩
  ·refine List.pairwise_cons.2 ⟨λf hf=>?_,List.pairwise_singleton ..⟩;obtain rfl:=List.mem_singleton.1 hf;simp[zP,zD,yZf,cmpN,lexI]
  ·simp only[List.mem_cons,List.not_mem_nil,or_false];constructor
   ·rintro (h|h)
    ·exact .inr (.inr h)
    ·exact .inl h
   ·rintro (h|h|h)
    ·exact .inr h
    ·exact .inr h
    ·exact .inl h
 have h1:yZb [zD,zD,zP]=([zP,zD],0):=by
  unfold yZb;rw[show[zD,zD,zP].all Fm.right=true by decide];simp only[if_true,List.map_cons,List.map_nil,vZo,vZp,zQv hs]
 have h2:yZb []=([],0):=by
  unfold yZb;simp only[List.all_nil,if_true,List.map_nil,xKl]
 unfold SetS;simp only[h1,h2,ne_eq,nTf,if_false]
end Go.Proofs.Tryz
namespace Go.Proofs.Tryz
open Go Go.Iv
set_option maxRecDepth 4000
def tagR:List Tr->Tag
 | []=>⟨true,.nil,0⟩
 | _::_=>⟨true,.full,12⟩
theorem wY1 (l:List Tr):okEs (tagR l) 12:=by cases l<;>simp[tagR,okEs]
mutual
def trI:Tr->IV
 | .mk rule s (.mk o fn us fs) (.mk v un ts) n sub=>.agg [.raw (.int .u8 rule),.sl (tagF s.l) (fmsI s.l),.sl (tagF s.r) (fmsI s.r),.raw (.int .u8 o),.raw (.string fn),.sl (tagT us) (tmsI us),.sl (tagF fs) (fmsI fs),.raw (.bool v),.raw (.string un),.sl (tagT ts) (tmsI ts),.raw (.string n),.sl (tagR sub) (trsI sub)]
def trsI:List Tr->List IV
 | []=>[]
 | a::l=>trI a::trsI l
end
mutual
def bytT:Tr->Bool
 | .mk rule s f _ _ sub=>decide (rule<256)&&zWa s.l&&zWa s.r&&wJl f&&wKv sub
def wKv:List Tr->Bool
 | []=>true
 | a::l=>bytT a&&wKv l
end
mutual
theorem xGn:∀t:Tr,bytT t=true->IsTr t (trI t)
 | .mk rule s (.mk o fn us fs) (.mk v un ts) n sub,h=>by
  simp only[bytT,bAt,dTe] at h;obtain⟨⟨⟨⟨h1,h2⟩,h3⟩,h4⟩,h5⟩:=h;have hf:=xVt (.mk o fn us fs) h4;have ht:=xKd (.mk v un ts);simp only[fmI] at hf;simp only[tmI] at ht;simp only[IsTr];exact⟨tagF s.l,fmsI s.l,tagF s.r,fmsI s.r,o,fn,tagT us,tmsI us,tagF fs,fmsI fs,v,un,tagT ts,tmsI ts,tagR sub,trsI sub,by simp only[trI],h1,yK7 _,yK0 _ h2,yK7 _,yK0 _ h3,hf,ht,wY1 _,xGm sub h5⟩
theorem xGm:∀l:List Tr,wKv l=true->IsTrs l (trsI l)
 | [],_=>rfl
 | a::l,h=>by
  simp only[wKv,bAt] at h;exact⟨_,_,by simp only[trsI],xGn a h.1,xGm l h.2⟩
end
def fitB (l:List Fm):Bool:=l.all λf=>decide (f.size<=1000000)
theorem zVh {l:List Fm}(h:fitB l=true):fitL l:=λg hg=>of_decide_eq_true (List.all_eq_true.1 h g hg)
def wQ1:Tr->Bool
 | .mk _ s m u _ sub=>fitB s.l&&fitB s.r&&decide (m.size<=1000000)&&decide (u.size<=1000000)&&sub.all λa=>fitB a.sq.l&&fitB a.sq.r
theorem vZq {t:Tr}(h:wQ1 t=true):wQ0 t:=by
 obtain⟨rule,s,m,u,n,sub⟩:=t;simp only[wQ1,bAt,dTe,List.all_eq_true] at h;obtain⟨⟨⟨⟨h1,h2⟩,h3⟩,h4⟩,h5⟩:=h;exact⟨⟨zVh h1,zVh h2⟩,h3,h4,λa ha=>⟨zVh (h5 a ha).1,zVh (h5 a ha).2⟩⟩
theorem wZe {t:Tr}(h:(t.walk []).all (λq=>wQ1 q.2)=true)(hh:t.height<=1099511627776):wKb t:=⟨λq hq=>vZq (List.all_eq_true.1 h q hq),hh⟩
theorem vJ6:wKb trA:=wZe (by decide) (by decide)
theorem vJ5:wKb trE:=wZe (by decide) (by decide)
theorem is_A:IsTr trA (trI trA):=xGn trA (by decide)
theorem is_E:IsTr trE (trI trE):=xGn trE (by decide)
end Go.Proofs.Tryz
namespace Go.Proofs.Tryz
open Go Go.Iv
set_option maxRecDepth 4000
variable (gl:Nat->Option IV)
theorem yZm (x y z:Operand):yKs 3 [(0,x),(1,y),(2,z)]=true:=rfl
theorem wJg (G:Gl gl)(T:Gt gl)(st:ISt):ICall prog gl 10 [] st (λr st'=>r=.raw (.bool true)/\st'=st):=by
 have hA1:=λst=>zGw gl G T 1 trA (trI trA) is_A vJ6 st;have hA2:=λst=>zGw gl G T 2 trA (trI trA) is_A vJ6 st;have hE1:=λst=>zGw gl G T 1 trE (trI trE) is_E vJ5 st;have hE2:=λst=>zGw gl G T 2 trE (trI trE) is_E vJ5 st;simp only[wVd] at hA1;simp only[wVc] at hA2;simp only[wVb] at hE1;simp only[wVa] at hE2;refine ICall.intro (c:=cf prog gl [] [(2,[2,10,0,1,3,4,5,6,7,8,9,11]),(4,[0,2,9,10,11,13,1,3,4,5,6,7,8,12,14]),(9,[8,9,11,0,1,2,3,4,5,6,7,10,12]),(10,[0,1,2,5,6,8,3,4,7,9]),(18,[3,4,7,8,0,1,2,5,6,9,10,11,12,13,14]),(19,[0,1,3,4,7,8,2,5,6,9,10,11,12,13,14]),(21,[0,1,10,2,3,4,5,6,7,8,9,11,12]),(22,[0,1,2,3,4,5,6,7,8,9,10,14,15,11,12,13,16,17,18,19,20,21,22,23,24,25,26,27,28,29,30,31,32,33,35,34,36,37,38,39,40,41])]) func10 rfl (by show _<=241;simp) (by kernel_rfl) ?_;simp only[go_sem,zA,zL,yQm]
 repeat (first
  | (refine (q_p gl _ _ _ _).mono ?_;rintro _ st ⟨rfl,rfl⟩;simp only[go_sem,zE,zA,zM,zL,fits,yQ4,yQp,yQm,fits])
  | (refine (q_no gl _ _ _ _ _ _ _).mono ?_;rintro _ st ⟨rfl,rfl⟩;simp only[go_sem,zE,zB,zA,zM,zS,zL,reduceCtorEq,fits,yQ4,yQp,yZm,yQm,decide_true,fits])
  | (refine (xXl gl _ _ _ _ _ _ _ _ _ _ _ _ _ _).mono ?_;rintro _ st ⟨rfl,rfl⟩;simp only[go_sem,zE,zA,zL,yQm])
  | (refine (q_fs gl _ _ _).mono ?_;rintro _ st ⟨rfl,rfl⟩;simp only[go_sem,zE,zA,zL,yQm])
  | (refine (q_sq gl _ _ _ _ _).mono ?_;rintro _ st ⟨rfl,rfl⟩;simp only[go_sem,zE,zA,zM,zL,fits,yQp,yQm,fits])
  | (refine (q_v gl _ _).mono ?_;rintro _ st ⟨rfl,rfl⟩;simp only[go_sem,zE,zB,zA,zM,zS,zL,reduceCtorEq,fits,yQ4,yQp,yZm,yQm,decide_true,fits]))
 refine (hA1 _).mono ?_;rintro _ st ⟨⟨tg1,rfl,ht1⟩,rfl⟩;simp only[go_sem,zE,zA,zL];refine (hA2 _).mono ?_;rintro _ st ⟨⟨tg2,rfl,ht2⟩,rfl⟩;simp only[go_sem,zE,zA,zL,yQm]
 repeat (first
  | (refine (q_p gl _ _ _ _).mono ?_;rintro _ st ⟨rfl,rfl⟩;simp only[go_sem,zA,zM,zL,fits,yQ4,yQm,fits])
  | (refine (q_no gl _ _ _ _ _ _ _).mono ?_;rintro _ st ⟨rfl,rfl⟩;simp only[go_sem,zE,zA,zM,zL,fits,yQp,yQm,fits])
  | (refine (xXl gl _ _ _ _ _ _ _ _ _ _ _ _ _ _).mono ?_;rintro _ st ⟨rfl,rfl⟩;simp only[go_sem,zE,zA,zL,yQm])
  | (refine (q_fs gl _ _ _).mono ?_;rintro _ st ⟨rfl,rfl⟩;simp only[go_sem,zE,zA,zL,yQm])
  | (refine (q_sq gl _ _ _ _ _).mono ?_;rintro _ st ⟨rfl,rfl⟩;simp only[go_sem,zE,zA,zM,zL,fits,yQ4,yQm,fits])
  | (refine (q_v gl _ _).mono ?_;rintro _ st ⟨rfl,rfl⟩;simp only[go_sem,zE,zB,zA,zM,zS,zL,reduceCtorEq,fits,yQ4,yQp,yZm,yQm,decide_true,fits]))
 refine (hE1 _).mono ?_;rintro _ st ⟨⟨tg3,rfl,ht3⟩,rfl⟩;simp only[go_sem,zE,zA,zL];refine (hE2 _).mono ?_;rintro _ st ⟨⟨tg4,rfl,ht4⟩,rfl⟩;have hz1:IntKind.i64.wrap (((0:Nat):Int)+((0:Nat):Int))=0:=rfl;have hz2:IntKind.i64.wrap ((0:Int)+((0:Nat):Int))=0:=rfl;have hz3:decide ((0:Int)=0)=true:=rfl;have hz4:decide (((195:Nat):Int)=195)=true:=rfl;have hz5:plI []=[]:=rfl;have hS:=λst=>wU5 gl trA (trI trA) is_A (by decide) st;have hH:=λst=>wV7 gl trA (trI trA) is_A (by decide) st;have hC:=λst=>vK3 gl trA (trI trA) is_A (by decide) st;simp only[wY4] at hS;simp only[wK5] at hH;simp only[vJ9] at hC;simp only[go_sem,zE,zA,zL,hz1,hz2,hz4,hz5,decide_true,show decide (((0:Nat):Int)=0)=true from rfl];intros;refine (hS _).mono ?_;rintro _ st ⟨rfl,rfl⟩;simp only[go_sem,zE,zA,zL,show decide (((3:Nat):Int)=3)=true from rfl];refine (hH _).mono ?_;rintro _ st ⟨rfl,rfl⟩;simp only[go_sem,zE,zA,zL,show decide (((2:Nat):Int)=2)=true from rfl];refine (hC _).mono ?_;rintro _ st ⟨rfl,rfl⟩;simp only[go_sem,zE,zL,yQm,show decide (((0:Nat):Int)=0)=true from rfl]
 repeat (first
  | (refine (q_p gl _ _ _ _).mono ?_;rintro _ st ⟨rfl,rfl⟩;simp only[go_sem,zA,zM,zL,fits,yQ4,fits])
  | (refine (q_no gl _ _ _ _ _ _ _).mono ?_;rintro _ st ⟨rfl,rfl⟩;simp only[go_sem,zE,zB,zA,zM,zS,zL,reduceCtorEq,fits,yQ4,yQp,yZm,yQm,decide_true,fits])
  | (refine (xXl gl _ _ _ _ _ _ _ _ _ _ _ _ _ _).mono ?_;rintro _ st ⟨rfl,rfl⟩;simp only[go_sem,zE,zB,zA,zM,zS,zL,reduceCtorEq,fits,yQ4,yQp,yZm,yQm,decide_true,fits])
  | (refine (q_fs gl _ _ _).mono ?_;rintro _ st ⟨rfl,rfl⟩;simp only[go_sem,zE,zA,zM,zL,fits,yQ4,yQm,fits])
  | (refine (q_sq gl _ _ _ _ _).mono ?_;rintro _ st ⟨rfl,rfl⟩;simp only[go_sem,zE,zA,zL,yQm])
  | (refine (q_v gl _ _).mono ?_;rintro _ st ⟨rfl,rfl⟩;simp only[go_sem,zE,zA,zM,zL,fits,yQ4,yQp,yQm,fits]))
 have hB1:=λst=>wWn gl G T 3 ⟨[zP],[zX]⟩ (.agg [.sl (tagF [zP]) (fmsI [zP]),.sl (tagF [zX]) (fmsI [zX])]) ⟨_,_,_,_,rfl,yK7 _,yK0 _ (by decide),yK7 _,yK0 _ (by decide)⟩ ⟨zVh (by decide),zVh (by decide)⟩ 14 zX (fmI zX) (xVt zX (by decide)) (by decide) tm0 (tmI tm0) (xKd tm0) (by decide) qu st;simp only[vK6] at hB1;refine (hB1 _).mono ?_;rintro _ st ⟨tg5,xs5,rfl,ht5,hx5,rfl⟩;obtain⟨w5,_,rfl,hw5,rfl⟩:=hx5;simp only[go_sem,zE,zA,zM,zL,fits,yQ4]
 repeat (first
  | (refine (q_p gl _ _ _ _).mono ?_;rintro _ st ⟨rfl,rfl⟩;simp only[go_sem,zE,zB,zA,zM,zS,zL,reduceCtorEq,fits,yQ4,yQp,yZm,yQm,decide_true,fits])
  | (refine (q_no gl _ _ _ _ _ _ _).mono ?_;rintro _ st ⟨rfl,rfl⟩;simp only[go_sem,zE,zB,zA,zM,zS,zL,reduceCtorEq,fits,yQ4,yQp,yZm,yQm,decide_true,fits])
  | (refine (xXl gl _ _ _ _ _ _ _ _ _ _ _ _ _ _).mono ?_;rintro _ st ⟨rfl,rfl⟩;simp only[go_sem,zE,zB,zA,zM,zS,zL,reduceCtorEq,fits,yQ4,yQp,yZm,yQm,decide_true,fits])
  | (refine (q_fs gl _ _ _).mono ?_;rintro _ st ⟨rfl,rfl⟩;simp only[go_sem,zE,zA])
  | (refine (q_sq gl _ _ _ _ _).mono ?_;rintro _ st ⟨rfl,rfl⟩;simp only[go_sem,zE,zA,zL,yQm])
  | (refine (q_v gl _ _).mono ?_;rintro _ st ⟨rfl,rfl⟩;simp only[go_sem,zE,zB,zA,zM,zS,zL,reduceCtorEq,fits,yQ4,yQp,yZm,yQm,decide_true,fits]))
 have hB2:=λst=>wWn gl G T 3 ⟨[zY],[zX]⟩ (.agg [.sl (tagF [zY]) (fmsI [zY]),.sl (tagF [zX]) (fmsI [zX])]) ⟨_,_,_,_,rfl,yK7 _,yK0 _ (by decide),yK7 _,yK0 _ (by decide)⟩ ⟨zVh (by decide),zVh (by decide)⟩ 14 zX (fmI zX) (xVt zX (by decide)) (by decide) tm0 (tmI tm0) (xKd tm0) (by decide) qu st;simp only[vK5] at hB2;refine (hB2 _).mono ?_;rintro _ st ⟨tg6,xs6,rfl,ht6,hx6,rfl⟩;simp only[go_sem,zE,zA,zL,yQm]
 repeat (first
  | (refine (q_p gl _ _ _ _).mono ?_;rintro _ st ⟨rfl,rfl⟩;simp only[go_sem,zE,zA,zM,zL,fits,yZm,yQm,fits])
  | (refine (q_no gl _ _ _ _ _ _ _).mono ?_;rintro _ st ⟨rfl,rfl⟩;simp only[go_sem,zE,zB,zA,zM,zS,zL,reduceCtorEq,fits,yQ4,yQp,yZm,yQm,decide_true,fits])
  | (refine (xXl gl _ _ _ _ _ _ _ _ _ _ _ _ _ _).mono ?_;rintro _ st ⟨rfl,rfl⟩;simp only[go_sem,zE,zA,zL,yQm])
  | (refine (q_fs gl _ _ _).mono ?_;rintro _ st ⟨rfl,rfl⟩;simp only[go_sem,zA])
  | (refine (q_sq gl _ _ _ _ _).mono ?_;rintro _ st ⟨rfl,rfl⟩;simp only[go_sem,zA])
  | (refine (q_v gl _ _).mono ?_;rintro _ st ⟨rfl,rfl⟩;simp only[go_sem,zE,zB,zA,zM,zS,zL,reduceCtorEq,fits,yQ4,yQp,yZm,yQm,decide_true,fits]))
 have hD:=λst=>uWv gl G T ⟨[zD,zD,zP],[]⟩ (.agg [.sl (tagF [zD,zD,zP]) (fmsI [zD,zD,zP]),.sl (tagF []) (fmsI [])]) ⟨_,_,_,_,rfl,yK7 _,yK0 _ (by decide),yK7 _,yK0 _ (by decide)⟩ ⟨zVh (by decide),zVh (by decide)⟩ (by decide) st;simp only[uWw] at hD;refine (hD _).mono ?_;rintro _ st ⟨⟨y,rfl,hy⟩,rfl⟩;obtain⟨ty1,xy1,ty2,xy2,rfl,ey1,iy1,ey2,iy2⟩:=hy;obtain⟨tw1,xw1,tw2,xw2,rfl,ew1,iw1,ew2,iw2⟩:=hw5;have z1:decide (((1:Nat):Int)=1)=true:=rfl;have z2:decide (((193:Nat):Int)=193)=true:=rfl;have z3:decide (((0:Nat):Int)=0)=true:=rfl;simp only[go_sem,zE,zB,zA,zL,fits,yQm,yQ1 ht5,Int.le_refl,Int.toNat_zero,z1,z3]
 repeat (first
  | (refine (q_p gl _ _ _ _).mono ?_;rintro _ st ⟨rfl,rfl⟩;simp only[go_sem,zE,zA,zM,zL,fits,yQ4,yQp,fits])
  | (refine (q_no gl _ _ _ _ _ _ _).mono ?_;rintro _ st ⟨rfl,rfl⟩;simp only[go_sem,zE,zB,zA,zM,zS,zL,reduceCtorEq,fits,yQ4,yQp,yZm,yQm,decide_true,fits])
  | (refine (xXl gl _ _ _ _ _ _ _ _ _ _ _ _ _ _).mono ?_;rintro _ st ⟨rfl,rfl⟩;simp only[go_sem,zE,zB,zA,zM,zS,zL,reduceCtorEq,fits,yQ4,yQp,yZm,yQm,decide_true,fits])
  | (refine (q_fs gl _ _ _).mono ?_;rintro _ st ⟨rfl,rfl⟩;simp only[go_sem,zE,zA,zL,yQm])
  | (refine (q_sq gl _ _ _ _ _).mono ?_;rintro _ st ⟨rfl,rfl⟩;simp only[go_sem,zE,zA])
  | (refine (q_v gl _ _).mono ?_;rintro _ st ⟨rfl,rfl⟩;simp only[go_sem,zE,zA,zM,zL,fits,yQ4,yQm,fits]))
 have hS1:=λst=>yGg gl ⟨[zP],[zX,zU]⟩ ⟨[zP],[zX,zU]⟩ (.agg [.sl tw1 xw1,.sl tw2 xw2]) (.agg [.sl (tagF [zP]) (fmsI [zP]),.sl (tagF [zX,zU]) (fmsI [zX,zU])]) ⟨_,_,_,_,rfl,ew1,iw1,ew2,iw2⟩ ⟨_,_,_,_,rfl,yK7 _,yK0 _ (by decide),yK7 _,yK0 _ (by decide)⟩ st;have hS2:=λst=>yGg gl ⟨[zP,zD],[]⟩ ⟨[zP,zD],[]⟩ (.agg [.sl ty1 xy1,.sl ty2 xy2]) (.agg [.sl (tagF [zP,zD]) (fmsI [zP,zD]),.sl (tagF []) (fmsI [])]) ⟨_,_,_,_,rfl,ey1,iy1,ey2,iy2⟩ ⟨_,_,_,_,rfl,yK7 _,yK0 _ (by decide),yK7 _,yK0 _ (by decide)⟩ st;refine (hS1 _).mono ?_;rintro _ st ⟨rfl,rfl⟩;simp only[go_sem,zE,zA,zL,yQm,show ∀s:Sq,eqB s s=true from λs=>yQl.2 rfl,z2,z3]
 repeat (first
  | (refine (q_p gl _ _ _ _).mono ?_;rintro _ st ⟨rfl,rfl⟩;simp only[go_sem,zE,zA,zM,zL,fits,yQp,fits])
  | (refine (q_no gl _ _ _ _ _ _ _).mono ?_;rintro _ st ⟨rfl,rfl⟩;simp only[go_sem,zE,zB,zA,zM,zS,zL,reduceCtorEq,fits,yQ4,yQp,yZm,yQm,decide_true,fits])
  | (refine (xXl gl _ _ _ _ _ _ _ _ _ _ _ _ _ _).mono ?_;rintro _ st ⟨rfl,rfl⟩;simp only[go_sem,zE,zB,zA,zM,zS,zL,reduceCtorEq,fits,yQ4,yQp,yZm,yQm,decide_true,fits])
  | (refine (q_fs gl _ _ _).mono ?_;rintro _ st ⟨rfl,rfl⟩;simp only[go_sem,zE,zA])
  | (refine (q_sq gl _ _ _ _ _).mono ?_;rintro _ st ⟨rfl,rfl⟩;simp only[go_sem,zE,zA])
  | (refine (q_v gl _ _).mono ?_;rintro _ st ⟨rfl,rfl⟩;simp only[go_sem,zE,zB,zA,zM,zS,zL,reduceCtorEq,fits,yQ4,yQp,yZm,yQm,decide_true,fits]))
 refine (hS2 _).mono ?_;rintro _ st ⟨rfl,rfl⟩;simp only[go_sem,zE,show ∀s:Sq,eqB s s=true from λs=>yQl.2 rfl];exact yQ0 ⟨rfl,rfl⟩
end Go.Proofs.Tryz
namespace Go.Proofs.Tryz
open Go Go.Iv
mutual
theorem wXt:∀t:Tm,t.size<=wTm t
 | .mk _ n us=>by have:=zJc us;simp only[wTm,Tm.size];omega
theorem zJc:∀l:List Tm,yQ8 l<=wTms l
 | []=>Nat.le_refl _
 | a::l=>by have:=wXt a;have:=zJc l;simp only[wTms,yQ8];omega
end
mutual
theorem wXu:∀f:Fm,f.size<=wFm f
 | .mk _ n us sub=>by have:=zJc us;have:=yVc sub;simp only[wFm,Fm.size];omega
theorem yVc:∀l:List Fm,yQ7 l<=wFms l
 | []=>Nat.le_refl _
 | a::l=>by have:=wXu a;have:=yVc l;simp only[wFms,yQ7];omega
end
end Go.Proofs.Tryz
namespace Go.Proofs.Tryz
open Go Go.Iv
set_option maxRecDepth 4000
variable (gl:Nat->Option IV)
theorem Lents.nil (st:ISt):Lents st [] []:=rfl
theorem Lents.self {st:ISt}{y:IV}{ys xs:List IV}(h:Lents st ys xs):Lents st (y::ys) (y::xs):=⟨_,_,rfl,.inl rfl,h⟩
theorem Lents.lent {st:ISt}{y x0:IV}{ys xs:List IV}(ho:OI st y x0)(h:Lents st ys xs):Lents st (y::ys) (age x0::xs):=⟨_,_,rfl,.inr ⟨x0,ho,rfl⟩,h⟩
theorem _root_.Go.Iv.OI.sub {T st:ISt}{y x:IV}(h:OI T y x)(hs:subSt T st):OI st y x:=h.mono λ_ _ k=>hs _ _ k
variable {gl} in
theorem yYt {f:FuncId}{args args':List IV}{b:Bool}{st:ISt}(hf:flatSt st)(hl:Lents st args args')(h:∀st,ICall prog gl f args' st (λr st'=>r=.raw (.bool b)/\st'=st)) :
  ICall prog gl f args st (λr st'=>r=.raw (.bool b)/\st'=st) :=
 (ICall.lent (K:=λr=>r=.raw (.bool b)) (wQj hf) hl ((h (yYp st)).mono λr st' k=>⟨k.2,by rw[k.1];trivial,k.1⟩)).mono λr st' k=>⟨k.2,k.1⟩
theorem wYy {N:ISt}(hraw:wJa N){s:Sq}{y x:IV}(hx:IsSqD s x)(ho:OI N y x)(hy:rawY y):∃u w d,y=.agg [u,w]/\u.one=true/\u.def_/\w.one=true/\w.def_/\OK (λb=>N b≠none) d 4 N u/\OK (λb=>N b≠none) d 4 N w:=by
 obtain⟨t1,x1,t2,x2,rfl,e1,a1,i1,e2,a2,i2⟩:=hx;cases ho with
 | refl=>simp only[rawY,xXg] at hy;exact hy.1.elim
 | agg rs _ hl h =>
  simp only[rawY] at hy
  match rs,hl with
  | [u,w],_ =>
   have o1:=h 0 _ _ rfl rfl;have o2:=h 1 _ _ rfl rfl;have y1:=yYl hy (show u∈[u,w] by simp);have y2:=yYl hy (show w∈[u,w] by simp);have q1:(∃v,u=.raw v)/\u.one=true:=by cases o1 with|refl=>exact y1.elim|nil=>exact⟨⟨_,rfl⟩,rfl⟩|sl=>exact⟨⟨_,rfl⟩,rfl⟩
   have q2:(∃v,w=.raw v)/\w.one=true:=by cases o2 with|refl=>exact y2.elim|nil=>exact⟨⟨_,rfl⟩,rfl⟩|sl=>exact⟨⟨_,rfl⟩,rfl⟩
   obtain⟨d,hd⟩:=zYs hraw _ s.l (Nat.lt_succ_self _) _ _ _ q1.1 o1 e1 i1.1 (xKj a1 i1);obtain⟨e,he⟩:=zYs hraw _ s.r (Nat.lt_succ_self _) _ _ _ q2.1 o2 e2 i2.1 (xKj a2 i2);refine⟨u,w,d+e,rfl,q1.2,?_,q2.2,?_,hd.le (by omega),he.le (by omega)⟩
   ·obtain⟨⟨v,rfl⟩,_⟩:=q1;exact λh=>by cases h
   ·obtain⟨⟨v,rfl⟩,_⟩:=q2;exact λh=>by cases h
theorem vZ5 (G:Gl gl)(T:Gt gl)(hgl:vJq gl)(ca:Nat)(a b:Sq)(x y:IV)(hx:IsSq a x)(hy:IsSq b y)(f:Fm)(z:IV)(hz:IsFm f z)(ha:yKt a)(hb:yKt b)(hf:f.size<=1000000)
  (hs:yQ7 a.l<=1000000/\yQ7 a.r<=1000000/\yQ7 b.l<=1000000/\yQ7 b.r<=1000000) (st:ISt) (hfl:flatSt st) :
  ICall prog gl 14 [.raw (.int .u8 ca),x,y,z] st (λr st'=>r=.raw (.bool true)/\st'=st):=by
 have l1:=yQw a.l;have l2:=yQw a.r;have l3:=yQw b.l;have l4:=yQw b.r;have hLa:=λst hfl=>xZj gl a x hx (by omega) (by omega) st hfl;have hLb:=λst hfl=>xZj gl b y hy (by omega) (by omega) st hfl;have hRs:=λst=>vZb gl a x hx ha ⟨by omega,by omega⟩ st;have hW1:=λst=>zUv gl G a b x y hx hy ha hb ⟨by omega,by omega,by omega,by omega⟩ st;have hW2:=λst=>zUv gl G b a y x hy hx hb ha ⟨by omega,by omega,by omega,by omega⟩ st;have hRv:=λst=>wJb gl ca a x hx ha st;have hKa:=λw st hfl hw=>xZk gl a x w hx (by omega) (by omega) st hfl hw;have hKb:=λw st hfl hw=>xZk gl b y w hy (by omega) (by omega) st hfl hw;have hx0:=hx;have hy0:=hy;have hz0:=hz;obtain⟨t1,x1,t2,x2,rfl,e1,i1,e2,i2⟩:=hx;obtain⟨t3,x3,t4,x4,rfl,e3,i3,e4,i4⟩:=hy;obtain⟨o5,n5,t5,x5,t6,x6,rfl⟩:=hz.agg;have hRh:=λst=>xUm gl G a.l t1 x1 e1 i1 f _ hz0 ha.1 hf (by omega) st;refine ICall.intro (c:=cf prog gl [] [(1,[0,2,4,5,1,3,6,7]),(4,[0,1,3,4,2,5,6,7]),(5,[0,1,3,4,2,5,6,7,8,9,10,12,13,14,11,15,16,17,18,19,20,22,21,23,24,25,26,27,29,28,30,31,32,33,34,35,36,37,38,39,40,41,42,43,44,45])]) func14 rfl (by show _<=93;simp) (by kernel_rfl) ?_;simp only[go_sem,zE,zA,zL];refine (hLa _ hfl).mono ?_;rintro xa st1 ⟨hxa,hs1,hf1⟩;obtain⟨za,hza,hoa⟩:=hxa.oi (by omega) (by omega);simp only[go_sem,zE,zA];refine (hLb _ hf1).mono ?_;rintro xb st2 ⟨hxb,hs2,hf2⟩;obtain⟨zb,hzb,hob⟩:=hxb.oi (by omega) (by omega);have hA2:LSq st2 a xa:=hxa.mono λc o hc=>hs2 _ _ (yKo hc).2;have hB2:LSq st2 b xb:=hxb.mono λc o hc=>(yKo hc).2;have ho2:OI st2 xa za:=hoa.sub λc o hc=>hs2 _ _ (yKo hc).2;have ho2b:OI st2 xb zb:=hob.sub λc o hc=>(yKo hc).2;have hS:=ICall.lentOwn hf2 hgl (Lents.lent ho2 (Lents.nil _)) (K:=λr=>∃y,r=.tup [y,.raw (.int .i64 (SetS a).2)]/\IsSqD (SetS a).1 y)
  ((vJt gl G T a (age (age za)) hza.aged.aged ha ⟨by omega,by omega⟩ (yYp st2)).mono λr st' ⟨⟨y,h1,h2⟩,h3⟩=>⟨h3,by rw[h1];exact⟨h2.dfr,trivial,trivial⟩,y,h1,h2⟩)
 obtain⟨pa,ca1,qa,da,rfl,ga1,ga2,ga3,ga4⟩:=hxa;obtain⟨pb,cb1,qb,db,rfl,gb1,gb2,gb3,gb4⟩:=hxb;simp only[go_sem,zE,zA,zL];refine hS.mono ?_;rintro _ st3 ⟨hs3,hf3,_,N,⟨yi,rfl,hyi⟩,hoN,hrY,hrN,hN3,hNd⟩;obtain⟨ys,rfl,hoys,hrys⟩:=wJi hoN hrY;obtain⟨u,w,d,rfl,hu1,hu2,hw1,hw2,hOu,hOw⟩:=wYy hrN hyi hoys hrys;simp only[go_sem,zE,zA,zL,hu1,hw1];refine (hRs _).mono ?_;rintro _ st3 ⟨⟨yr,rfl,hyr⟩,rfl⟩;have hyr0:=hyr;obtain⟨t7,x7,t8,x8,rfl,_⟩:=hyr;simp only[go_sem,zE,zA,zL];refine (hW1 _).mono ?_;rintro _ st3 ⟨rfl,rfl⟩;simp only[go_sem,zE,zA];refine (hW2 _).mono ?_;rintro _ st3 ⟨rfl,rfl⟩;have ho3:=ho2.sub hs3;have ho3b:=ho2b.sub hs3;have hV:=yYt (gl:=gl) hf3 (Lents.self (y:=.raw (.int .u8 ca)) (Lents.lent ho3 (Lents.nil _))) (λst=>wXc gl G ca a _ hza.aged ha st);have hxl:LFc st3 a.l ca1/\st3 pa=some (.box (ca1++mksF 12)):=⟨ga2.mono λc o hc=>hs3 _ _ (hs2 _ _ (yKo hc).2),hs3 _ _ (hs2 _ _ (yKo ga1).2)⟩
 obtain⟨zl,hzl,hol⟩:=hxl.1.sl hxl.2 (by omega);have hH:=yYt (gl:=gl) hf3 (Lents.lent hol (Lents.self (y:=.agg [.raw (.int .u8 o5),.raw (.string n5),.sl t5 x5,.sl t6 x6]) (Lents.nil _))) (λst=>by
  simp only[age];exact xWa gl G a.l f _ _ _ (.inr rfl) hzl.aged hz0 ha.1 hf st)
 have hWi:=yYt (gl:=gl) hf3 (Lents.lent ho3 (Lents.lent ho3b (Lents.nil _))) (λst=>zXv gl G a b _ _ hza.aged hzb.aged ha hb st);have hSa:=yYt (gl:=gl) hf3 (Lents.lent ho3 (Lents.lent ho3b (Lents.nil _))) (λst=>wV3 gl G a b _ _ hza.aged hzb.aged ha hb st);have hSs:=yYt (gl:=gl) hf3 (Lents.lent (hoys.sub hN3) (Lents.self (y:=.agg [.sl t7 x7,.sl t8 x8]) (Lents.nil _))) (λst=>yGg gl _ _ _ _ hyi.w.aged hyr0 st);rw[yQl.2 rfl] at hSs;have hO:=xYk gl hu1 hu2 hw1 hw2 (hOu.mono hN3) (hOw.mono hN3);have hKa2:=hKa _ st2 hf2 hA2;have hKb2:=hKb _ st2 hf2 hB2;simp only[go_sem,zE,zA,zL,reduceCtorEq];refine hV.mono ?_;rintro _ st3 ⟨rfl,rfl⟩;simp only[go_sem,zE,zA];refine (hRv _).mono ?_;rintro _ st3 ⟨rfl,rfl⟩;simp only[go_sem,zE,zA,zL];refine hH.mono ?_;rintro _ st3 ⟨rfl,rfl⟩;simp only[go_sem,zE,zA];refine (hRh _).mono ?_;rintro _ st3 ⟨rfl,rfl⟩;simp only[go_sem,zE,zA,zL];refine hWi.mono ?_;rintro _ st3 ⟨rfl,rfl⟩;simp only[go_sem,zE,zA,zL];refine hSa.mono ?_;rintro _ st3 ⟨rfl,rfl⟩;cases yJa a b<;>cases yJa b a
 all_goals
  simp only[go_sem,zE,zA,zL,decide_true];refine hSs.mono ?_;rintro _ st3 ⟨rfl,rfl⟩;simp only[go_sem,zE,zA,zL];refine hO.mono ?_;rintro _ st4 hov;have hs4:subSt st2 st4:=λc o hc=>by
   rw[hov.dom c λhD=>by rw[hNd c hD] at hc;cases hc];exact hs3 _ _ hc
  simp only[go_sem,zE,zA,zL];refine (ICall.sub hKa2 hs4).mono ?_;rintro _ st5 ⟨rfl,rfl⟩;simp only[go_sem,zE,zA,zL];refine hKb2.mono ?_;rintro _ st5 ⟨rfl,rfl⟩;simp only[go_sem,zE];exact yQ9 (λc o hc=>hs2 _ _ (hs1 _ _ hc)) ⟨rfl,rfl⟩
theorem yG2:∀ {l:List Fm},yQ7 l<=1000000->fitL l
 | [],_,f,hf=>by cases hf
 | a::l,h,f,hf=>by
  simp only[yQ7] at h;rcases List.mem_cons.1 hf with rfl|hf
  ·omega
  ·exact yG2 (l:=l) (by omega) f hf
theorem zGr (G:Gl gl)(T:Gt gl)(hgl:vJq gl)(ca:Nat)(a b:Sq)(x y:IV)(hx:IsSq a x)(hy:IsSq b y)(f:Fm)(z:IV)(hz:IsFm f z)
  (ha:wFms a.l<=1099511627776/\wFms a.r<=1099511627776) (hb:wFms b.l<=1099511627776/\wFms b.r<=1099511627776) (hf:wFm f<=1099511627776) (st:ISt) (hfl:flatSt st) :
  ICall prog gl 4 [.raw (.int .u8 ca),x,y,z] st (λr st'=>r=.raw (.bool true)/\st'=st):=by
 have hA:=λst=>wJg gl G T st;have h1:=λst=>vK2 gl a x hx ha st;have h2:=λst=>vK2 gl b y hy hb st;have s1:=yVc a.l;have s2:=yVc a.r;have s3:=yVc b.l;have s4:=yVc b.r;have s5:=yVc [f];simp only[yQ7,wFms] at s5;have hS:=λq1 q2 q3 q4 q5 st=>vZ5 gl G T hgl ca a b x y hx hy f z hz ⟨yG2 q1,yG2 q2⟩ ⟨yG2 q3,yG2 q4⟩ q5 ⟨q1,q2,q3,q4⟩ st;have hz0:=hz;obtain⟨t1,x1,t2,x2,rfl,_⟩:=hx;obtain⟨t3,x3,t4,x4,rfl,_⟩:=hy;obtain⟨o9,n9,t9,x9,t8,x8,rfl⟩:=hz.agg;have hsz:=λst=>xXk gl [f] ⟨true,.full,4⟩ [.agg [.raw (.int .u8 o9),.raw (.string n9),.sl t9 x9,.sl t8 x8]] (.inr rfl) ⟨_,_,rfl,hz0,rfl⟩ 300 ⟨by omega,by omega⟩ (by simp only[wFms];omega) st;refine iI func4 ?_;simp only[go_sem,zE,zA,zL];refine (h1 _).mono ?_;rintro _ st ⟨rfl,rfl⟩;by_cases q1:wFms a.l+wFms a.r<=300
 case neg =>
  simp only[go_sem,zE,zA,dEf q1];refine (hA _).mono ?_;rintro _ st ⟨rfl,rfl⟩;simp only[go_sem,zE];exact yQ0 ⟨rfl,rfl⟩
 simp only[go_sem,zE,zA,zL,dEt q1];refine (h2 _).mono ?_;rintro _ st ⟨rfl,rfl⟩;by_cases q2:wFms b.l+wFms b.r<=300
 case neg =>
  simp only[go_sem,zE,zA,dEf q2];refine (hA _).mono ?_;rintro _ st ⟨rfl,rfl⟩;simp only[go_sem,zE];exact yQ0 ⟨rfl,rfl⟩
 simp only[go_sem,zE,zA,zM,zL,fits,dEt q2,yQ4];refine (q_fs gl _ _ _).mono ?_;rintro _ st ⟨rfl,rfl⟩;simp only[go_sem,zE,zA];refine (hsz _).mono ?_;rintro _ st ⟨hSm,rfl⟩;obtain⟨mm,rfl,hd⟩:=hSm.gt;rw[show wFms [f]=wFm f from by simp[wFms]] at hd;cases q3:decide (300<wFm f)
 case true =>
  rw[q3] at hd;simp only[go_sem,zE,zA,hd];refine (hA _).mono ?_;rintro _ st ⟨rfl,rfl⟩;simp only[go_sem,zE];exact yQ0 ⟨rfl,rfl⟩
 rw[q3] at hd;have q4:wFm f<=300:=by have:=of_decide_eq_false q3;omega
 simp only[go_sem,zE,zA,zL,reduceCtorEq,hd];refine (hS (by omega) (by omega) (by omega) (by omega) (by omega) _ hfl).mono ?_;rintro _ st ⟨rfl,rfl⟩;simp only[go_sem,zE,zA];refine (hA _).mono ?_;rintro _ st ⟨rfl,rfl⟩;simp only[go_sem,zE];exact yQ0 ⟨rfl,rfl⟩
end Go.Proofs.Tryz
namespace Go.Proofs.Tryz
open Go Go.Iv Go.ChangeShapes
open Go.Proofs.YtabhgbojkjcfjaaGreatDoor.Rows (uptoBulk uptoBulkAll)
set_option maxRecDepth 4000
theorem uSeq:prog.underlying 24=some (.struct #[⟨ "Left",22,0,false, "", "",0⟩,⟨ "Right",22,1,false, "", "",24⟩]):=by kernel_rfl
theorem nSeq:prog.cellsOf 24=2:=by kernel_rfl
mutual
theorem wXj:∀t:Tm,wTm t<=2*xG0 t
 | .mk _ n us=>by have:=zXx us;simp only[wTm,xG0];omega
theorem zXx:∀l:List Tm,wTms l<=2*yU0 l
 | []=>Nat.le_refl _
 | a::l=>by have:=wXj a;have:=zXx l;simp only[wTms,yU0];omega
end
mutual
theorem xK7:∀f:Fm,wFm f<=2*xJr f
 | .mk _ n us sub=>by have:=zXx us;have:=yUp sub;simp only[wFm,xJr];omega
theorem yUp:∀l:List Fm,wFms l<=2*zQm l
 | []=>Nat.le_refl _
 | a::l=>by have:=xK7 a;have:=yUp l;simp only[wFms,zQm];omega
end
section
variable {H:Type}{enc:TypeId×Value->H}{w:World}{spare:Nat->Bool}{held:Bool}
def RQ (d:DataW H)(s:Sq)(x:IV):Prop:=IsSq s x/\wFms s.l+wFms s.r<=2*uptoBulk d
theorem wVq (fuel:Nat)(cs:List Value)(y:DataW H×List MemPlace)(h:DataW.trod enc prog w 0 spare held fuel 24 cs=some y)(hb:uptoBulk y.1<=1048576):∃s x,VL 0 (L0 w) w cs x.cells/\RQ y.1 s x:=by
 obtain⟨ys,n,rfl,rfl,hl,hlen,hf⟩:=DataW.trod_struct uSeq h
 match ys,hlen with
 | [y0,y1],_ =>
  rw[nSeq] at hl
  match cs,hl with
  | [c0,c1],_ =>
   have h0:=hf 0 _ rfl;have h1:=hf 1 _ rfl;simp only[List.getElem?_cons_zero,List.getElem?_cons_succ] at h0 h1;simp only[List.map_cons,List.map_nil,uptoBulk,uptoBulkAll] at hb;obtain⟨v0,tg0,xs0,l0,e0,hv0,ht0,hl0,hb0⟩:=zGa h0 (by omega) (λm _=>xJh m);obtain⟨v1,tg1,xs1,l1,e1,hv1,ht1,hl1,hb1⟩:=zGa h1 (by omega) (λm _=>xJh m);cases e0;cases e1;refine⟨⟨l0,l1⟩,.agg [.sl tg0 xs0,.sl tg1 xs1],VL.cons hv0 (VL.cons hv1 VL.nil),⟨tg0,xs0,tg1,xs1,rfl,ht0,hl0,ht1,hl1⟩,?_⟩;have:=yUp l0;have:=yUp l1;simp only[List.map_cons,List.map_nil,uptoBulk,uptoBulkAll];omega
end
end Go.Proofs.Tryz
namespace Go.Proofs.Tryz
open Go Go.Iv Go.ChangeShapes Go.RowKit
open Go.Proofs.YtabhgbojkjcfjaaGreatDoor
set_option maxRecDepth 8000
theorem uRow:prog.underlying 251=some (.struct #[⟨ "right",4,0,false, "", "lyceum/syntax",0⟩,⟨ "schema",4,1,false, "", "lyceum/syntax",1⟩,⟨ "name",5,2,false, "", "lyceum/syntax",2⟩,⟨ "args",3,3,false, "", "lyceum/syntax",8⟩,⟨ "subs",3,4,false, "", "lyceum/syntax",16⟩]):=by kernel_rfl
theorem vYe:prog.underlying 252=some (.array 17 251):=by kernel_rfl
theorem uInt:prog.underlying 3=some (.int .i64):=by kernel_rfl
theorem nRow:prog.cellsOf 251=5:=by kernel_rfl
theorem uX1:prog.cellsOf 252=85:=by kernel_rfl
theorem gRows:prog.globalNamed "lyceum/syntax.rows" = some 0:=by kernel_rfl
theorem gRowsT:(prog.globals[0]?).map (·.type)=some 252:=by kernel_rfl
theorem gPow:prog.globalNamed "internal/strconv.uint64pow10" = some 2:=by kernel_rfl
theorem gPowT:(prog.globals[2]?).map (·.type)=some 314:=by kernel_rfl
theorem uPow:prog.underlying 314=some (.array 20 247):=by kernel_rfl
theorem uU64:prog.underlying 247=some (.int .u64):=by kernel_rfl
theorem nPow:prog.cellsOf 314=20:=by kernel_rfl
theorem nU64:prog.cellsOf 247=1:=by kernel_rfl
section
variable {H:Type}{enc:TypeId×Value->H}{w:World}{spare:Nat->Bool}{held:Bool}
def rowD (op:Nat):DataW H:=.agg [.lit (.bool (yZ8 op)),.lit (.bool (zJi op)),.lit (.int .u8 (yXb op)),.lit (.int .i64 (yX8 op)),.lit (.int .i64 (yX7 op))]
def rowV (op:Nat):List Value:=[.bool (yZ8 op),.bool (zJi op),.int .u8 (yXb op),.int .i64 (yX8 op),.int .i64 (yX7 op)]
theorem xUf {fuel:Nat}{cs:List Value}{op:Nat}{p:List MemPlace}(h:DataW.trod enc prog w 0 spare held fuel 251 cs=some (rowD op,p)):cs=rowV op:=by
 obtain⟨ys,n,rfl,he,hl,hlen,hf⟩:=DataW.trod_struct uRow h
 match ys,hlen with
 | [y0,y1,y2,y3,y4],_ =>
  rw[nRow] at hl
  match cs,hl with
  | [c0,c1,c2,c3,c4],_ =>
   have h0:=hf 0 _ rfl;have h1:=hf 1 _ rfl;have h2:=hf 2 _ rfl;have h3:=hf 3 _ rfl;have h4:=hf 4 _ rfl;simp only[List.getElem?_cons_zero,List.getElem?_cons_succ] at h0 h1 h2 h3 h4;obtain⟨b0,e0,rfl⟩:=DataW.trod_bool xGl h0;obtain⟨b1,e1,rfl⟩:=DataW.trod_bool xGl h1;obtain⟨b2,e2,rfl,_⟩:=DataW.trod_int uU8 h2;obtain⟨b3,e3,rfl,_⟩:=DataW.trod_int uInt h3;obtain⟨b4,e4,rfl,_⟩:=DataW.trod_int uInt h4;cases e0;cases e1;cases e2;cases e3;cases e4;have he1:=congrArg Prod.fst he;simp only[rowD,List.map_cons,List.map_nil,DataW.agg.injEq,List.cons.injEq,DataW.lit.injEq,Lit.bool.injEq,Lit.int.injEq,true_and,and_true] at he1;obtain⟨rfl,rfl,rfl,rfl,rfl⟩:=he1;rfl
theorem xUe:(Rows.laid_lyceum_syntax_rows:DataW H)=.agg ((List.range 17).map rowD):=by rfl
theorem xWw {fuel:Nat}{cs:List Value}{p:List MemPlace}(h:DataW.trod enc prog w 0 spare held fuel 252 cs=some (Rows.laid_lyceum_syntax_rows,p)) :
  cs.length=85/\∀op,op<17->(cs.drop (op*5)).take 5=rowV op:=by
 obtain⟨ys,n,rfl,he,hl,hlen,hf⟩:=DataW.trod_array vYe h;rw[uX1] at hl;refine⟨hl,λop hop=>?_⟩;have h1:=hf op hop;rw[nRow] at h1;have he1:=congrArg Prod.fst he;rw[xUe] at he1;simp only[DataW.agg.injEq] at he1;have h2:(ys.map (·.1))[op]?=some (rowD op):=by
  rw[<- he1,List.getElem?_map,List.getElem?_range hop];rfl
 rw[List.getElem?_map] at h2;obtain⟨y,hy,hy2⟩:=Option.map_eq_some_iff.1 h2;rw[hy] at h1;obtain⟨y1,y2⟩:=y;simp only at hy2;subst hy2;exact xUf h1
end
def gl0:Nat->Option IV
 | 0=>some (.agg rowsL)
 | 2=>some (.agg pow10L)
 | _=>none
theorem G0:Gl gl0:=⟨rfl⟩
theorem T0:Gt gl0:=⟨rfl⟩
def X0 (w:World):WS:={ w:=w,L:=L0 w,st:=λ_=>none,d:=0 }
theorem xXd {cs:List Value}(hl:cs.length=85)(h:∀op,op<17->(cs.drop (op*5)).take 5=rowV op)(i:Nat)(r:Value)(c:IV)(hr:cs[i]?=some r)(hc:rowsL[i]?=some c):c=.raw r/\zQx r:=by
 have hi:i<85:=by have:=(lGs hr).1;omega
 have hop:i / 5<17:=by omega
 have e:i=i / 5*5+i%5:=by omega
 have hm:i%5<5:=Nat.mod_lt _ (by decide);have h1:(rowV (i / 5))[i%5]?=some r:=by
  rw[<- h _ hop,List.getElem?_take,if_pos hm,List.getElem?_drop,<- e];exact hr
 have h2:(rowI (i / 5))[i%5]?=some c:=by
  rw[<- (zW0 _ hop).2,List.getElem?_take,if_pos hm,List.getElem?_drop,<- e];exact hc
 generalize i%5=k at h1 h2 hm
 match k,hm with
 | 0,_=>cases h1;cases h2;exact⟨rfl,trivial⟩
 | 1,_=>cases h1;cases h2;exact⟨rfl,trivial⟩
 | 2,_=>cases h1;cases h2;exact⟨rfl,trivial⟩
 | 3,_=>cases h1;cases h2;exact⟨rfl,trivial⟩
 | 4,_=>cases h1;cases h2;exact⟨rfl,trivial⟩
theorem uXi {W:World}(hL:laidMetH prog Rows.sequentSetsUptoRow.laid W):Go.Iv.Good ⟨prog,gl0,0⟩ (X0 W):=by
 obtain⟨ps,hlv,_⟩:=(show laidMet prog _ W from hL)
 obtain⟨_,_,_,_,_,_,_,_,_,_,hlv,_⟩:=hlv;obtain⟨_,_,_,_,_,_,_,_,_,_,hlv,_⟩:=hlv;obtain⟨g1,t1,cs1,f1,p1,q1,hg1,ht1,hv1,hd1,hlv,_⟩:=hlv;obtain⟨g2,t2,cs2,f2,p2,q2,hg2,ht2,hv2,hd2,_,_⟩:=hlv;obtain rfl:=Option.some.inj (gPow.symm.trans hg1);obtain rfl:=Option.some.inj (gPowT.symm.trans ht1);obtain rfl:=Option.some.inj (gRows.symm.trans hg2);obtain rfl:=Option.some.inj (gRowsT.symm.trans ht2);have hc1:=Lib.cells_of_tab (zs:=Lib.pow10Tab) uPow uU64 nU64 nPow hd1;have hc2:=xWw hd2;have hb:∀(n:String) (g:Nat) (cs:Array Value),prog.globalNamed n=some g->W.var? prog n=some cs->∃T f,W.heap[g]?=some (.cells cs T f):=by
  intro n g cs hn hv;unfold World.var? at hv;rw[hn,Option.bind_some] at hv;split at hv
  ·rename_i c t f hh;cases hv;exact⟨_,_,hh⟩
  ·cases hv
 obtain⟨T1,fr1,hh1⟩:=hb _ _ _ gPow hv1;obtain⟨T2,fr2,hh2⟩:=hb _ _ _ gRows hv2;have row:∀(g:Nat) (cs:Array Value) (T:TypeId) (f:Nat×Nat) (xs:List IV),W.heap[g]?=some (.cells cs T f)->cs.size=xs.length->(∀(i:Nat) (r:Value) (c:IV),cs.toList[i]?=some r->xs[i]?=some c->c=.raw r/\zQx r) →
   V 0 (L0 W) W (.pointer (some ⟨g,0,none⟩)) (.cptr (.agg xs)):=by
  intro g cs T f xs hh hl h;refine .cptr _ _ cs.toList rfl (by simpa[IV.cells] using hl) ?_ (λi r hr=>?_) (λi r c hr hc=>?_)
  ·show 0+cs.toList.length<=L0 W g;simp[L0,hh]
  ·show W.cell? ⟨g,0+i,none⟩=some r;simp only[World.cell?,hh,Nat.zero_add];simpa using hr
  ·obtain⟨rfl,hk⟩:=h i r c hr hc;exact .raw _ hk
 have hp:∀(i:Nat) (r:Value) (c:IV),cs1.toList[i]?=some r->pow10L[i]?=some c->c=.raw r/\zQx r:=by
  intro i r c hr hc;rw[hc1,List.getElem?_map] at hr;unfold pow10L at hc;rw[List.getElem?_map] at hc;obtain⟨z,hz,rfl⟩:=Option.map_eq_some_iff.1 hr;rw[hz] at hc;cases hc;exact⟨rfl,trivial⟩
 have hs1:cs1.size=pow10L.length:=by
  rw[<- Array.length_toList,hc1];simp[pow10L]
 have hs2:cs2.size=rowsL.length:=by
  rw[<- Array.length_toList,hc2.1];rfl
 refine⟨λb o h=>(by cases h),λg x hx=>?_,Nat.zero_le _,λb hb=>?_,λg x hx=>?_,λ_=>Nat.zero_le _⟩
 ·match g,hx with
  | 0,hx=>cases hx;exact row 0 cs2 T2 fr2 _ hh2 hs2 (λi r c hr hc=>xXd hc2.1 hc2.2 i r c hr hc)
  | 2,hx=>cases hx;exact row 2 cs1 T1 fr1 _ hh1 hs1 hp
 ·show L0 W b=0;unfold L0;rw[Array.getElem?_eq_none (show W.heap.size<=b from hb)]
 ·match g,hx with
  | 0,hx=>cases hx;exact⟨T2,fr2 == (0,0),by show shq W 0=_;simp[shq,hh2,hs2,IV.cells]⟩
  | 2,hx=>cases hx;exact⟨T1,fr1 == (0,0),by show shq W 2=_;simp[shq,hh1,hs1,IV.cells]⟩
theorem xZg {W:World}{X':WS}(h:Ext (X0 W) X'):Below W.heap.size W X'.w :=
 ⟨h.os,h.tape,h.output,h.size,λk hk=>(h.keep k hk rfl).1⟩
theorem wG8:laidOutB prog=true:=by kernel_rfl
theorem yUs {H:Type}{enc:TypeId×Value->H}{W W':World}(hb:Below W.heap.size W W')(sp:Nat->Bool):∀ {ts:List TypeId} {vs:List Value} {ds:List (DataW H)} {ps:List MemPlace},
  (∀t∈ts,prog.readableRec t=true/\t<prog.types.size)->DataW.TrodAll enc prog W 0 (λ_=>true) true ts vs ds ps->(∀p∈ps,p.block<W.heap.size)->(∀p∈ps,sp p.block=true) →
  DataW.TrodAll enc prog W' 0 sp true ts vs ds ps
 | [],vs,ds,ps,_,h,_,_=>by
  obtain⟨rfl,rfl,rfl⟩:=trodAll_nil h;rfl
 | t::ts,vs,ds,ps,ht,h,hlt,hsp=>by
  obtain⟨v,vs1,d,ds1,a,b,rfl,rfl,rfl,h1,h2⟩:=trodAll_cons h;refine⟨a,b,WideElems.Trod_stays wG8 (ht t (by simp)).1 (ht t (by simp)).2 h1 (λp hp=>hb.same (hlt p (by simp[hp]))) (λp hp=>hsp p (by simp[hp])),?_,rfl⟩;exact yUs hb sp (λt h=>ht t (by simp[h])) h2 (λp hp=>hlt p (by simp[hp])) (λp hp=>hsp p (by simp[hp]))
theorem wK2 {H:Type}{enc:TypeId×Value->H}{f:Func}{s:ChangeSpec}{fid:FuncId}{W:World}{args:Array Value}{ds gs:List (DataW H)}{before:List MemPlace}{ivs:List IV}
  (hvars:s.vars=[]) (hW:DataW.Whole enc prog f.params.toList s.vars false W args.toList ds gs before) (hfn:s.fn H (ds++gs)={ results:=[.lit (.bool true)],args:=ds })
  (hres:f.resultTypes=#[4]) (hread:∀t∈f.params.toList,prog.readableRec t=true/\t<prog.types.size) (hg:Go.Iv.Good ⟨prog,gl0,0⟩ (X0 W)) (hv:VL 0 (L0 W) W args.toList ivs)
  (hc:ICall prog gl0 fid ivs (λ_=>none) (λr st'=>r=.raw (.bool true)/\st'=λ_=>none)) :
  Calls prog fid args W λe W'=>∃v,e=.returned v/\s.post enc prog f false true false false W args v W':=by
 refine (hc 0 (X0 W) args.toList hg rfl hv).mono ?_;rintro e W' ⟨v,rfl,X',x,rfl,hg',he,hx,rfl,_⟩;obtain rfl:=V.raw_inv hx;have hb:=xZg he;refine⟨_,rfl,?_⟩;have hW':=hW;obtain⟨p,q,hA,hV,rfl,hz,_⟩:=hW;rw[hvars] at hV;have hgs:gs=[]/\q=[]:=by
  cases gs with
  | nil=>exact⟨rfl,hV⟩
  | cons _ _=>exact absurd hV (by simp[DataW.TrodVars])
 obtain⟨rfl,rfl⟩:=hgs;have hlt:∀x∈p,x.block<W.heap.size:=λx hx=>by simpa using hW'.lt x (by simpa using hx)
 have hargs:∀sp:Nat->Bool,(∀x∈p,sp x.block=true)->DataW.TrodAll enc prog X'.w 0 sp true f.params.toList args.toList (s.fn H (ds++[])).args p:=λsp hsp=>by
  rw[hfn];exact yUs hb sp hread hA hlt hsp
 have hr:∀(b:Nat) (sp:Nat->Bool) (hd:Bool),DataW.TrodAll enc prog X'.w b sp hd f.resultTypes.toList ((Value.bool true).resultList f.resultTypes.size) (s.fn H (ds++[])).results []:=λ_ _ _=>by
  rw[hfn,hres];exact trodAll_cons_mk (shut_bool xGl _) trodAll_mk0
 have hvs:∀sp:Nat->Bool,DataW.TrodVars enc prog X'.w sp s.vars (s.fn H (ds++[])).vars []:=λ_=>by
  rw[hvars,hfn];rfl
 have hsz:∀x∈p,(λb=>decide (b<W.heap.size)) x.block=true:=λx hx=>by simpa using hlt x hx
 refine⟨ds,[],p++[],[],p,[],hW',hr _ _ _,hargs _ hsz,hvs _,World.keptBut_mono (λx hx=>⟨hx,Or.inr (by simpa using hx)⟩) (hb.frame (·∈p++[])),λ_=>⟨ok_one hres rfl (okWide_bool_mk xGl _),_,_,([]++p)++[],
  ⟨[]++p,[],trodAll_append (hargs _ (λ_ _=>rfl)) (hr _ _ _),hvs _,rfl,?_,λh=>by cases h⟩,λx hx _=>by simpa using hx⟩⟩
 intro b off hp;rw[hb.frozen (p:=⟨b,off,none⟩) (hlt (.cell b off) (by simpa using hp))];exact hz b off (by simpa using hp)
theorem wK8 {W:World}{base:Nat}{v:Value}{f:Fm}{x:IV}(h:Value.okWide prog W .any base 27 v)(hx:VL 0 (L0 W) W v.cells.toList x.cells)(hf:IsFm f x):V 0 (L0 W) W v x:=by
 obtain⟨cs,rfl,_⟩:=WideShapes.okWide_struct vQt h;cases f with
 | mk op n us sub =>
  obtain⟨tg,xs,tg',ys,rfl,_⟩:=IsFm.mk hf;cases cs;exact hx.agg
theorem xU8 {W:World}{base:Nat}{v:Value}{s:Sq}{x:IV}(h:Value.okWide prog W .any base 24 v)(hx:VL 0 (L0 W) W v.cells.toList x.cells)(hf:IsSq s x):V 0 (L0 W) W v x:=by
 obtain⟨cs,rfl,_⟩:=WideShapes.okWide_struct uSeq h;obtain⟨_,_,_,_,rfl,_⟩:=hf;cases cs;exact hx.agg
theorem wKu {α:Prop}{W:World}{base:Nat}{v:Value}(h:Value.okWide prog W .any base 5 v)(_:α):∃b:Nat,v=.int .u8 b/\V 0 (L0 W) W (.int .u8 b) (.raw (.int .u8 b))/\b<256:=by
 simp only[Value.okWide,uU8,Cell.okWide] at h;cases v<;>simp_all [Cell.ok];rename_i k n;obtain⟨rfl,h1,h2⟩:=h;have e1:IntKind.u8.min=0:=by decide
 have e2:IntKind.u8.max=255:=by decide
 rw[e1] at h1;rw[e2] at h2;refine⟨n.toNat,?_,?_,?_⟩
 ·omega
 ·exact .raw _ trivial
 ·omega
def tab32:List Int:=[0,1,28,2,29,14,24,3,30,22,20,15,25,17,4,8,31,27,13,23,21,19,16,7,26,12,18,6,11,5,10,9]
def tab64:List Int:=[0,1,56,2,57,49,28,3,61,58,42,50,38,29,17,4,62,47,59,36,45,43,51,22,53,39,33,30,24,18,12,5,63,55,48,27,60,41,37,16,46,35,44,21,52,32,23,11,54,26,40,15,34,20,31,10,25,14,19,9,13,8,7,6]
def lay (cs:List Value):Obj->Obj
 | .cells _ t frozen=>.cells cs.toArray t frozen
 | o=>o
noncomputable def zJt (os:Os):World :=
 { World.holding prog os ⟨#[],#[],[]⟩ with heap:=((((World.holding prog os ⟨#[],#[],[]⟩).heap.modify 0 (lay ((List.range 17).flatMap rowV))).modify 2 (lay (Lib.pow10Tab.map λz=>.int .u64 z))).modify 3 (lay (tab32.map λz=>.int .u8 z))).modify 4 (lay (tab64.map λz=>.int .u8 z)) }
theorem wK3 (os:Os)(args:Array Value):laidMet prog Rows.sequentSetsUptoRow.laid ((zJt os).forCall (λ_ _=>0) ⟨#[],args,[]⟩).memory :=
 laidMet_of_run' 8 (by kernel_rfl) (by kernel_rfl)
end Go.Proofs.Tryz
namespace Go.Proofs.Tryz
open Go Go.Iv
set_option maxRecDepth 4000
theorem zKx:∀l:List IV,(∀x∈l,∃v,x=.raw v)->ages l=l
 | [],_=>rfl
 | x::l,h=>by
  obtain⟨v,rfl⟩:=h x (by simp);simp only[ages,age,zKx l λy hy=>h y (by simp[hy])]
theorem wV0:∀g x,gl0 g=some x->age x=x:=by
 intro g x hx
 match g,hx with
 | 0,hx =>
  cases hx;simp only[age];rw[zKx _ λy hy=>?_];obtain⟨op,_,hy⟩:=List.mem_flatMap.1 hy;unfold rowI at hy;simp only[List.mem_cons,List.not_mem_nil,or_false] at hy;rcases hy with rfl|rfl|rfl|rfl|rfl<;>exact⟨_,rfl⟩
 | 2,hx =>
  cases hx;simp only[age];rw[zKx _ λy hy=>?_];obtain⟨z,_,rfl⟩:=List.mem_map.1 hy;exact⟨_,rfl⟩
