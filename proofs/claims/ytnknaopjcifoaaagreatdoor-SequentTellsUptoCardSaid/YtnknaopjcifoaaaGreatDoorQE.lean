/- The fixed data of lyceumlaw19's awake, c -/
import Derived.Test.YtnknaopjcifoaaaGreatDoorQD
import Derived.Test.YtnknaopjcifoaaaGreatDoorKE
import Derived.Deep.DeepHandedRow
set_option linter.all false
open Nat renaming reduceEqDiff → zE,reduceBEq → zB,reduceAdd → zA,reduceMul → zM,reduceSub → zS,reduceLeDiff → zL
namespace Go.Proofs.Tryz
open Go Go.Iv
set_option maxRecDepth 8000
theorem yKr {ca:Nat}{s:Sq}{rule:Nat}{main:Fm}{term:Tm}{name:ByteArray}{r:Rw}{ad:List Sq}(h1:yXd ca s=true)(h2:rowS ca rule=some r)(h3:yZj ca rule r main term name=(ad,0))
  (h4:r.left=true->hasF s.l main=true) (h5:r.right=true->hasF s.r main=true) (h6:r.asks≠2):yZo ca s rule main term name=(ad,0):=by
 unfold yZo;rw[h1,h2];simp only[Bool.not_true,bFt,if_false,h3];obtain⟨rl,rr,op,asks⟩:=r;simp only at h4 h5 h6 ⊢;have e1:(rl&&!hasF s.l main)=false:=by
  cases rl
  ·rfl
  ·rw[h4 rfl];rfl
 have e2:(rr&&!hasF s.r main)=false:=by
  cases rr
  ·rfl
  ·rw[h5 rfl];rfl
 rw[e1,e2,dEf h6];rfl
theorem yJ6 {l:List Fm}{f:Fm}(h:f∈l)(hr:f.right=true):hasF l f=true:=xQl.2 ⟨f,h,xW2 hr⟩
def zP:Fm:=.mk 1 ⟨#[80]⟩ [] []
def zQ:Fm:=.mk 1 ⟨#[81]⟩ [] []
def zI:Fm:=.mk 6 ⟨#[]⟩ [] [zP,zQ]
def tm0:Tm:=.mk false ⟨#[]⟩ []
def trP:Tr:=.mk 1 ⟨[zP,zI],[zP]⟩ zP tm0 ⟨#[]⟩ []
def trQ:Tr:=.mk 1 ⟨[zP,zQ],[zQ]⟩ zQ tm0 ⟨#[]⟩ []
def trA:Tr:=.mk 9 ⟨[zP,zI],[zQ]⟩ zI tm0 ⟨#[]⟩ [trP,trQ]
def row1:Rw:=⟨true,true,0,0⟩
def row9:Rw:=⟨true,false,6,0⟩
theorem yGi {f:Fm}(h:f.right=true):zZc [f]=true:=by simp[zZc,xW2 h]
theorem zQw {s:Sq}(h:(decide (s.l.length<=64)&&decide (s.r.length<=64)&&s.l.all (fmB 1)&&s.r.all (fmB 1))=true):yXd 1 s=true:=by
 unfold yXd;rw[show yXo 1=true from rfl,Bool.true_and,h];rfl
theorem zY4 {s:Sq}(h:(decide (s.l.length<=64)&&decide (s.r.length<=64)&&s.l.all (fmB 2)&&s.r.all (fmB 2))=true)(h2:zZc s.r=true):yXd 2 s=true:=by
 unfold yXd;rw[show yXo 2=true from rfl,Bool.true_and,h,h2];rfl
theorem wYp:yZo 1 ⟨[zP,zI],[zP]⟩ 1 zP tm0 ⟨#[]⟩=([],0):=yKr (r:=row1) (zQw (by decide)) rfl (by rfl) (λ_=>yJ6 (by simp) (by decide)) (λ_=>yJ6 (by simp) (by decide)) (by decide)
theorem wYo:yZo 2 ⟨[zP,zI],[zP]⟩ 1 zP tm0 ⟨#[]⟩=([],0):=yKr (r:=row1) (zY4 (by decide) (yGi (by decide))) rfl (by rfl) (λ_=>yJ6 (by simp) (by decide)) (λ_=>yJ6 (by simp) (by decide)) (by decide)
theorem wYn:yZo 1 ⟨[zP,zQ],[zQ]⟩ 1 zQ tm0 ⟨#[]⟩=([],0):=yKr (r:=row1) (zQw (by decide)) rfl (by rfl) (λ_=>yJ6 (by simp) (by decide)) (λ_=>yJ6 (by simp) (by decide)) (by decide)
theorem wYm:yZo 2 ⟨[zP,zQ],[zQ]⟩ 1 zQ tm0 ⟨#[]⟩=([],0):=yKr (r:=row1) (zY4 (by decide) (yGi (by decide))) rfl (by rfl) (λ_=>yJ6 (by simp) (by decide)) (λ_=>yJ6 (by simp) (by decide)) (by decide)
theorem wYu:yZo 1 ⟨[zP,zI],[zQ]⟩ 9 zI tm0 ⟨#[]⟩=([⟨[],[zP]⟩,⟨[zQ],[]⟩],0):=yKr (r:=row9) (zQw (by decide)) rfl (by rfl) (λ_=>yJ6 (by simp) (by decide)) (λh=>by cases h) (by decide)
theorem wYt:yZo 2 ⟨[zP,zI],[zQ]⟩ 9 zI tm0 ⟨#[]⟩=([⟨[],[zP]⟩,⟨[zQ],[]⟩],0):=yKr (r:=row9) (zY4 (by decide) (yGi (by decide))) rfl (by rfl) (λ_=>yJ6 (by simp) (by decide)) (λh=>by cases h) (by decide)
theorem yUq {l m:List Fm}(h:∀f∈l,f∈m/\f.right=true):allF l m=true:=List.all_eq_true.2 λf hf=>yJ6 (h f hf).1 (h f hf).2
theorem yKb {ca rule:Nat}{s:Sq}{main:Fm}{term:Tm}{name:ByteArray}{sub:List Tr}{ad:List Sq}(h:yZo ca s rule main term name=(ad,0))(hl:sub.length=ad.length)(hp:yXt s ad sub=true):yZf ca (.mk rule s main term name sub)=0:=by
 simp only[yZf];rw[h];simp only[ne_eq,nTf,if_false,hl,hp,if_true]
theorem zZ1:zP.right=true:=by decide
theorem xUy:zQ.right=true:=by decide
theorem wG7:zI.right=true:=by decide
theorem wQ8:yXt ⟨[zP,zI],[zQ]⟩ [⟨[],[zP]⟩,⟨[zQ],[]⟩] [trP,trQ]=true:=by
 have a1:allF [zP,zI] [zP,zI]=true:=yUq λf hf=>by
  simp only[List.mem_cons,List.not_mem_nil,or_false] at hf;rcases hf with rfl|rfl
  ·exact⟨by simp,zZ1⟩
  ·exact⟨by simp,wG7⟩
 have a2:allF [zP] [zQ,zP]=true:=yUq λf hf=>by
  simp only[List.mem_cons,List.not_mem_nil,or_false] at hf;subst hf;exact⟨by simp,zZ1⟩
 have a3:allF [zP,zQ] [zP,zI,zQ]=true:=yUq λf hf=>by
  simp only[List.mem_cons,List.not_mem_nil,or_false] at hf;rcases hf with rfl|rfl
  ·exact⟨by simp,zZ1⟩
  ·exact⟨by simp,xUy⟩
 have a4:allF [zQ] [zQ]=true:=yUq λf hf=>by
  simp only[List.mem_cons,List.not_mem_nil,or_false] at hf;subst hf;exact⟨by simp,xUy⟩
 simp only[yXt,trP,trQ,Tr.sq,Sq.plus,yJo,List.append_nil,List.cons_append,List.nil_append,a1,a2,a3,a4,Bool.and_self]
theorem wVf:yZf 1 trA=0:=yKb wYu rfl wQ8
theorem wVe:yZf 2 trA=0:=yKb wYt rfl wQ8
theorem wVa:yZf 1 trP=0:=yKb wYp rfl rfl
theorem wV9:yZf 2 trP=0:=yKb wYo rfl rfl
theorem wV8:yZf 1 trQ=0:=yKb wYn rfl rfl
theorem wV7:yZf 2 trQ=0:=yKb wYm rfl rfl
theorem wW1:trA.walk []=[([],trA),([0],trP),([1],trQ)]:=rfl
theorem wVz:yXk 1 trA=([],0):=by
 unfold yXk;rw[wW1];simp only[yQy,wVf,wVa,wV8,if_true];rfl
theorem wVy:yXk 2 trA=([],0):=by
 unfold yXk;rw[wW1];simp only[yQy,wVe,wV9,wV7,if_true];rfl
theorem wYl:trA.steps=3:=rfl
theorem wKr:trA.height=2:=rfl
theorem vJh:trA.cuts=0:=rfl
def zN:Fm:=.mk 3 ⟨#[]⟩ [] [zP]
def zO:Fm:=.mk 5 ⟨#[]⟩ [] [zP,zN]
def trE1:Tr:=.mk 1 ⟨[zP],[zP]⟩ zP tm0 ⟨#[]⟩ []
def trE2:Tr:=.mk 4 ⟨[],[zP,zN]⟩ zN tm0 ⟨#[]⟩ [trE1]
def trE:Tr:=.mk 8 ⟨[],[zO]⟩ zO tm0 ⟨#[]⟩ [trE2]
theorem wYs:yZo 1 ⟨[zP],[zP]⟩ 1 zP tm0 ⟨#[]⟩=([],0):=yKr (r:=row1) (zQw (by decide)) rfl (by rfl) (λ_=>yJ6 (by simp) (by decide)) (λ_=>yJ6 (by simp) (by decide)) (by decide)
theorem wYr:yZo 1 ⟨[],[zP,zN]⟩ 4 zN tm0 ⟨#[]⟩=([⟨[zP],[]⟩],0):=yKr (r:=⟨false,true,3,0⟩) (zQw (by decide)) rfl (by rfl) (λh=>by cases h) (λ_=>yJ6 (by simp) (by decide)) (by decide)
theorem vZj:yZo 1 ⟨[],[zO]⟩ 8 zO tm0 ⟨#[]⟩=([⟨[],[zP,zN]⟩],0):=yKr (r:=⟨false,true,5,0⟩) (zQw (by decide)) rfl (by rfl) (λh=>by cases h) (λ_=>yJ6 (by simp) (by decide)) (by decide)
theorem wYq:yZo 2 ⟨[],[zO]⟩ 8 zO tm0 ⟨#[]⟩=([⟨[],[zP]⟩],0):=yKr (r:=⟨false,true,5,0⟩) (zY4 (by decide) (yGi (by decide))) rfl (by rfl) (λh=>by cases h) (λ_=>yJ6 (by simp) (by decide)) (by decide)
theorem wG6:zN.right=true:=by decide
theorem vJv (l:List Fm):allF [zP,zN] (l++[zP,zN])=true:=yUq λf hf=>by
 simp only[List.mem_cons,List.not_mem_nil,or_false] at hf;rcases hf with rfl|rfl
 ·exact⟨by simp,zZ1⟩
 ·exact⟨by simp,wG6⟩
theorem wVd:yZf 1 trE1=0:=yKb wYs rfl rfl
theorem wVc:yZf 1 trE2=0:=yKb wYr rfl (by
 have a1:allF [zP] [zP]=true:=yUq λf hf=>by
  simp only[List.mem_cons,List.not_mem_nil,or_false] at hf;subst hf;exact⟨by simp,zZ1⟩
 have a2:allF [zP] [zP,zN]=true:=yUq λf hf=>by
  simp only[List.mem_cons,List.not_mem_nil,or_false] at hf;subst hf;exact⟨by simp,zZ1⟩
 simp only[yXt,trE1,Tr.sq,Sq.plus,yJo,List.append_nil,List.nil_append,a1,a2,Bool.and_self])
theorem wUf:yZf 1 trE=0:=yKb vZj rfl (by
 have a1:allF [] []=true:=rfl;simp only[yXt,trE2,Tr.sq,Sq.plus,yJo,List.nil_append,a1,vJv [zO],Bool.and_self])
theorem wW0:trE.walk []=[([],trE),([0],trE2),([0,0],trE1)]:=rfl
theorem wVx:yXk 1 trE=([],0):=by
 unfold yXk;rw[wW0];simp only[yQy,wUf,wVd,wVc,if_true];rfl
theorem wVb:yZf 2 trE=195:=by
 have h1:hasF [zO,zP] zN=false:=by
  simp[hasF,eqF,zN,zO,zP,Fm.op]
 have h2:yXt ⟨[],[zO]⟩ [⟨[],[zP]⟩] [trE2]=false:=by
  have h3:allF [zP,zN] [zO,zP]=false:=List.all_eq_false.2 ⟨zN,by simp,by rw[h1];simp⟩;simp only[yXt,trE2,Tr.sq,Sq.plus,yJo,List.cons_append,List.nil_append,h3,Bool.and_false,Bool.false_and]
 unfold trE;simp only[yZf];rw[wYq];simp only[h2];rfl
theorem wVw:yXk 2 trE=([],195):=by
 unfold yXk;rw[wW0];simp only[yQy,wVb];rfl
theorem xKd {ca:Nat}{s:Sq}{rule:Nat}{main:Fm}{term:Tm}{name:ByteArray}{r:Rw}{ad:List Sq}(h1:yXd ca s=true)(h2:rowS ca rule=some r)(h3:yZj ca rule r main term name=(ad,0))
  (h4:r.left=true->hasF s.l main=true) (h5:r.right=true->hasF s.r main=true) (h6:r.asks=2):yZo ca s rule main term name=if yK7 s name then ([],193) else (ad,0):=by
 unfold yZo;rw[h1,h2];simp only[Bool.not_true,bFt,if_false,h3];obtain⟨rl,rr,op,asks⟩:=r;simp only at h4 h5 h6 ⊢;have e1:(rl&&!hasF s.l main)=false:=by
  cases rl
  ·rfl
  ·rw[h4 rfl];rfl
 have e2:(rr&&!hasF s.r main)=false:=by
  cases rr
  ·rfl
  ·rw[h5 rfl];rfl
 rw[e1,e2,dEt h6,Bool.true_and];rfl
def qx:ByteArray:=⟨#[120]⟩
def qy:ByteArray:=⟨#[121]⟩
def qu:ByteArray:=⟨#[117]⟩
def zX:Fm:=.mk 8 qx [] [.mk 1 ⟨#[81]⟩ [.mk true qx []] []]
def zY:Fm:=.mk 9 qy [] [.mk 1 ⟨#[82]⟩ [.mk true qy [],.mk true qu []] []]
def zU:Fm:=.mk 1 ⟨#[81]⟩ [.mk true qu []] []
theorem wY0:yZj 3 14 ⟨false,true,8,2⟩ zX tm0 qu=([⟨[],[zU]⟩],0):=rfl
theorem xGy {s:Sq}(h:(decide (s.l.length<=64)&&decide (s.r.length<=64)&&s.l.all (fmB 3)&&s.r.all (fmB 3))=true):yXd 3 s=true:=by
 unfold yXd;rw[show yXo 3=true from rfl,Bool.true_and,h];rfl
theorem vK9:xJz 3 ⟨[zP],[zX]⟩ 14 zX tm0 qu=([⟨[zP],[zX,zU]⟩],0):=by
 have h:=xKd (ca:=3) (s:=⟨[zP],[zX]⟩) (rule:=14) (main:=zX) (term:=tm0) (name:=qu) (xGy (by decide)) rfl wY0 (λh=>by cases h) (λ_=>yJ6 (by simp) (by decide)) rfl;have hf:yK7 ⟨[zP],[zX]⟩ qu=false:=by decide
 rw[hf] at h;unfold xJz;rw[h];rfl
theorem vK8:xJz 3 ⟨[zY],[zX]⟩ 14 zX tm0 qu=([],193):=by
 have h:=xKd (ca:=3) (s:=⟨[zY],[zX]⟩) (rule:=14) (main:=zX) (term:=tm0) (name:=qu) (xGy (by decide)) rfl wY0 (λh=>by cases h) (λ_=>yJ6 (by simp) (by decide)) rfl;have hf:yK7 ⟨[zY],[zX]⟩ qu=true:=by decide
 rw[hf] at h;unfold xJz;rw[h];rfl
def zD:Fm:=.mk 4 ⟨#[]⟩ [] [zP,zQ]
theorem vX4:zX3 zP=zP:=rfl
theorem vX5:zX3 zD=zD:=rfl
theorem uVa:SetS ⟨[zD,zD,zP],[]⟩=(⟨[zP,zD],[]⟩,0):=by
 have hs:SetF [zD,zD,zP] [zP,zD]:=by
  refine⟨?_,λf=>?_⟩
  ·refine List.pairwise_cons.2 ⟨λf hf=>?_,List.pairwise_singleton ..⟩;obtain rfl:=List.mem_singleton.1 hf;simp[zP,zD,yXq,cmpN,lexI]
  ·simp only[List.mem_cons,List.not_mem_nil,or_false];constructor
   ·rintro (h|h)
    ·exact .inr (.inr h)
    ·exact .inl h
   ·rintro (h|h|h)
    ·exact .inr h
    ·exact .inr h
    ·exact .inl h
 have h1:yX6 [zD,zD,zP]=([zP,zD],0):=by
  unfold yX6;rw[show[zD,zD,zP].all Fm.right=true by decide];simp only[if_true,List.map_cons,List.map_nil,vX4,vX5,zJb hs]
 have h2:yX6 []=([],0):=by
  unfold yX6;simp only[List.all_nil,if_true,List.map_nil,xKg]
 unfold SetS;simp only[h1,h2,ne_eq,nTf,if_false]
end Go.Proofs.Tryz
namespace Go.Proofs.Tryz
open Go Go.Iv
set_option maxRecDepth 4000
def tagR:List Tr->Tag
 | []=>⟨true,.nil,0⟩
 | _::_=>⟨true,.full,12⟩
theorem wYh (l:List Tr):okEs (tagR l) 12:=by cases l<;>simp[tagR,okEs]
mutual
def trI:Tr->IV
 | .mk rule s (.mk o fn us fs) (.mk v un ts) n sub=>.agg [.raw (.int .u8 rule),.sl (tagF s.l) (fmsI s.l),.sl (tagF s.r) (fmsI s.r),.raw (.int .u8 o),.raw (.string fn),.sl (tagT us) (tmsI us),.sl (tagF fs) (fmsI fs),.raw (.bool v),.raw (.string un),.sl (tagT ts) (tmsI ts),.raw (.string n),.sl (tagR sub) (trsI sub)]
def trsI:List Tr->List IV
 | []=>[]
 | a::l=>trI a::trsI l
end
mutual
def bytT:Tr->Bool
 | .mk rule s f _ _ sub=>decide (rule<256)&&zW8 s.l&&zW8 s.r&&wK6 f&&wVi sub
def wVi:List Tr->Bool
 | []=>true
 | a::l=>bytT a&&wVi l
end
mutual
theorem xU3:∀t:Tr,bytT t=true->IsTr t (trI t)
 | .mk rule s (.mk o fn us fs) (.mk v un ts) n sub,h=>by
  simp only[bytT,bAt,dTe] at h;obtain⟨⟨⟨⟨h1,h2⟩,h3⟩,h4⟩,h5⟩:=h;have hf:=xVv (.mk o fn us fs) h4;have ht:=xK9 (.mk v un ts);simp only[fmI] at hf;simp only[tmI] at ht;simp only[IsTr];exact⟨tagF s.l,fmsI s.l,tagF s.r,fmsI s.r,o,fn,tagT us,tmsI us,tagF fs,fmsI fs,v,un,tagT ts,tmsI ts,tagR sub,trsI sub,by simp only[trI],h1,yKh _,yK9 _ h2,yKh _,yK9 _ h3,hf,ht,wYh _,xU2 sub h5⟩
theorem xU2:∀l:List Tr,wVi l=true->IsTrs l (trsI l)
 | [],_=>rfl
 | a::l,h=>by
  simp only[wVi,bAt] at h;exact⟨_,_,by simp only[trsI],xU3 a h.1,xU2 l h.2⟩
end
def fitB (l:List Fm):Bool:=l.all λf=>decide (f.size<=1000000)
theorem zVj {l:List Fm}(h:fitB l=true):fitL l:=λg hg=>of_decide_eq_true (List.all_eq_true.1 h g hg)
def wQk:Tr->Bool
 | .mk _ s m u _ sub=>fitB s.l&&fitB s.r&&decide (m.size<=1000000)&&decide (u.size<=1000000)&&sub.all λa=>fitB a.sq.l&&fitB a.sq.r
theorem vX6 {t:Tr}(h:wQk t=true):xQ0 t:=by
 obtain⟨rule,s,m,u,n,sub⟩:=t;simp only[wQk,bAt,dTe,List.all_eq_true] at h;obtain⟨⟨⟨⟨h1,h2⟩,h3⟩,h4⟩,h5⟩:=h;exact⟨⟨zVj h1,zVj h2⟩,h3,h4,λa ha=>⟨zVj (h5 a ha).1,zVj (h5 a ha).2⟩⟩
theorem wZw {t:Tr}(h:(t.walk []).all (λq=>wQk q.2)=true)(hh:t.height<=1099511627776):wZx t:=⟨λq hq=>vX6 (List.all_eq_true.1 h q hq),hh⟩
theorem vJe:wZx trA:=wZw (by decide) (by decide)
theorem vJd:wZx trE:=wZw (by decide) (by decide)
theorem is_A:IsTr trA (trI trA):=xU3 trA (by decide)
theorem is_E:IsTr trE (trI trE):=xU3 trE (by decide)
end Go.Proofs.Tryz
namespace Go.Proofs.Tryz
open Go Go.Iv
set_option maxRecDepth 4000
variable (gl:Nat->Option IV)
theorem yZy (x y z:Operand):yV6 3 [(0,x),(1,y),(2,z)]=true:=rfl
theorem wK1 (G:Gl gl)(T:Gt gl)(st:ISt):ICall prog gl 6 [] st (λr st'=>r=.raw (.bool true)/\st'=st):=by
 have hA1:=λst=>zV3 gl G T 1 trA (trI trA) is_A vJe st;have hA2:=λst=>zV3 gl G T 2 trA (trI trA) is_A vJe st;have hE1:=λst=>zV3 gl G T 1 trE (trI trE) is_E vJd st;have hE2:=λst=>zV3 gl G T 2 trE (trI trE) is_E vJd st;simp only[wVz] at hA1;simp only[wVy] at hA2;simp only[wVx] at hE1;simp only[wVw] at hE2;refine ICall.intro (c:=cf prog gl [] [(2,[2,10,0,1,3,4,5,6,7,8,9,11]),(4,[0,2,9,10,11,13,1,3,4,5,6,7,8,12,14]),(9,[8,9,11,0,1,2,3,4,5,6,7,10,12]),(10,[0,1,2,5,6,8,3,4,7,9]),(18,[3,4,7,8,0,1,2,5,6,9,10,11,12,13,14]),(19,[0,1,3,4,7,8,2,5,6,9,10,11,12,13,14]),(21,[0,1,10,2,3,4,5,6,7,8,9,11,12]),(22,[0,1,2,3,4,5,6,7,8,9,10,14,15,11,12,13,16,17,18,19,20,21,22,23,24,25,26,27,28,29,30,31,32,33,35,34,36,37,38,39,40,41])]) func6 rfl (by show _<=241;simp) (by kernel_rfl) ?_;simp only[go_sem,zA,zL,yQn]
 repeat (first
  | (refine (q_p gl _ _ _ _).mono ?_;rintro _ st ⟨rfl,rfl⟩;simp only[go_sem,zE,zA,zM,zL,fits,yQ2,yQq,yQn,fits])
  | (refine (q_no gl _ _ _ _ _ _ _).mono ?_;rintro _ st ⟨rfl,rfl⟩;simp only[go_sem,zE,zB,zA,zM,zS,zL,reduceCtorEq,fits,yQ2,yQq,yZy,yQn,decide_true,fits])
  | (refine (xXg gl _ _ _ _ _ _ _ _ _ _ _ _ _ _).mono ?_;rintro _ st ⟨rfl,rfl⟩;simp only[go_sem,zE,zA,zL,yQn])
  | (refine (q_fs gl _ _ _).mono ?_;rintro _ st ⟨rfl,rfl⟩;simp only[go_sem,zE,zA,zL,yQn])
  | (refine (q_sq gl _ _ _ _ _).mono ?_;rintro _ st ⟨rfl,rfl⟩;simp only[go_sem,zE,zA,zM,zL,fits,yQq,yQn,fits])
  | (refine (q_v gl _ _).mono ?_;rintro _ st ⟨rfl,rfl⟩;simp only[go_sem,zE,zB,zA,zM,zS,zL,reduceCtorEq,fits,yQ2,yQq,yZy,yQn,decide_true,fits]))
 refine (hA1 _).mono ?_;rintro _ st ⟨⟨tg1,rfl,ht1⟩,rfl⟩;simp only[go_sem,zE,zA,zL];refine (hA2 _).mono ?_;rintro _ st ⟨⟨tg2,rfl,ht2⟩,rfl⟩;simp only[go_sem,zE,zA,zL,yQn]
 repeat (first
  | (refine (q_p gl _ _ _ _).mono ?_;rintro _ st ⟨rfl,rfl⟩;simp only[go_sem,zA,zM,zL,fits,yQ2,yQn,fits])
  | (refine (q_no gl _ _ _ _ _ _ _).mono ?_;rintro _ st ⟨rfl,rfl⟩;simp only[go_sem,zE,zA,zM,zL,fits,yQq,yQn,fits])
  | (refine (xXg gl _ _ _ _ _ _ _ _ _ _ _ _ _ _).mono ?_;rintro _ st ⟨rfl,rfl⟩;simp only[go_sem,zE,zA,zL,yQn])
  | (refine (q_fs gl _ _ _).mono ?_;rintro _ st ⟨rfl,rfl⟩;simp only[go_sem,zE,zA,zL,yQn])
  | (refine (q_sq gl _ _ _ _ _).mono ?_;rintro _ st ⟨rfl,rfl⟩;simp only[go_sem,zE,zA,zM,zL,fits,yQ2,yQn,fits])
  | (refine (q_v gl _ _).mono ?_;rintro _ st ⟨rfl,rfl⟩;simp only[go_sem,zE,zB,zA,zM,zS,zL,reduceCtorEq,fits,yQ2,yQq,yZy,yQn,decide_true,fits]))
 refine (hE1 _).mono ?_;rintro _ st ⟨⟨tg3,rfl,ht3⟩,rfl⟩;simp only[go_sem,zE,zA,zL];refine (hE2 _).mono ?_;rintro _ st ⟨⟨tg4,rfl,ht4⟩,rfl⟩;have hz1:IntKind.i64.wrap (((0:Nat):Int)+((0:Nat):Int))=0:=rfl;have hz2:IntKind.i64.wrap ((0:Int)+((0:Nat):Int))=0:=rfl;have hz3:decide ((0:Int)=0)=true:=rfl;have hz4:decide (((195:Nat):Int)=195)=true:=rfl;have hz5:plI []=[]:=rfl;have hS:=λst=>wXy gl trA (trI trA) is_A (by decide) st;have hH:=λst=>xWh gl trA (trI trA) is_A (by decide) st;have hC:=λst=>wY3 gl trA (trI trA) is_A (by decide) st;simp only[wYl] at hS;simp only[wKr] at hH;simp only[vJh] at hC;simp only[go_sem,zE,zA,zL,hz1,hz2,hz4,hz5,decide_true,show decide (((0:Nat):Int)=0)=true from rfl];intros;refine (hS _).mono ?_;rintro _ st ⟨rfl,rfl⟩;simp only[go_sem,zE,zA,zL,show decide (((3:Nat):Int)=3)=true from rfl];refine (hH _).mono ?_;rintro _ st ⟨rfl,rfl⟩;simp only[go_sem,zE,zA,zL,show decide (((2:Nat):Int)=2)=true from rfl];refine (hC _).mono ?_;rintro _ st ⟨rfl,rfl⟩;simp only[go_sem,zE,zL,yQn,show decide (((0:Nat):Int)=0)=true from rfl]
 repeat (first
  | (refine (q_p gl _ _ _ _).mono ?_;rintro _ st ⟨rfl,rfl⟩;simp only[go_sem,zA,zM,zL,fits,yQ2,fits])
  | (refine (q_no gl _ _ _ _ _ _ _).mono ?_;rintro _ st ⟨rfl,rfl⟩;simp only[go_sem,zE,zB,zA,zM,zS,zL,reduceCtorEq,fits,yQ2,yQq,yZy,yQn,decide_true,fits])
  | (refine (xXg gl _ _ _ _ _ _ _ _ _ _ _ _ _ _).mono ?_;rintro _ st ⟨rfl,rfl⟩;simp only[go_sem,zE,zB,zA,zM,zS,zL,reduceCtorEq,fits,yQ2,yQq,yZy,yQn,decide_true,fits])
  | (refine (q_fs gl _ _ _).mono ?_;rintro _ st ⟨rfl,rfl⟩;simp only[go_sem,zE,zA,zM,zL,fits,yQ2,yQn,fits])
  | (refine (q_sq gl _ _ _ _ _).mono ?_;rintro _ st ⟨rfl,rfl⟩;simp only[go_sem,zE,zA,zL,yQn])
  | (refine (q_v gl _ _).mono ?_;rintro _ st ⟨rfl,rfl⟩;simp only[go_sem,zE,zA,zM,zL,fits,yQ2,yQq,yQn,fits]))
 have hB1:=λst=>wY4 gl G T 3 ⟨[zP],[zX]⟩ (.agg [.sl (tagF [zP]) (fmsI [zP]),.sl (tagF [zX]) (fmsI [zX])]) ⟨_,_,_,_,rfl,yKh _,yK9 _ (by decide),yKh _,yK9 _ (by decide)⟩ ⟨zVj (by decide),zVj (by decide)⟩ 14 zX (fmI zX) (xVv zX (by decide)) (by decide) tm0 (tmI tm0) (xK9 tm0) (by decide) qu st;simp only[vK9] at hB1;refine (hB1 _).mono ?_;rintro _ st ⟨tg5,xs5,rfl,ht5,hx5,rfl⟩;obtain⟨w5,_,rfl,hw5,rfl⟩:=hx5;simp only[go_sem,zE,zA,zM,zL,fits,yQ2]
 repeat (first
  | (refine (q_p gl _ _ _ _).mono ?_;rintro _ st ⟨rfl,rfl⟩;simp only[go_sem,zE,zB,zA,zM,zS,zL,reduceCtorEq,fits,yQ2,yQq,yZy,yQn,decide_true,fits])
  | (refine (q_no gl _ _ _ _ _ _ _).mono ?_;rintro _ st ⟨rfl,rfl⟩;simp only[go_sem,zE,zB,zA,zM,zS,zL,reduceCtorEq,fits,yQ2,yQq,yZy,yQn,decide_true,fits])
  | (refine (xXg gl _ _ _ _ _ _ _ _ _ _ _ _ _ _).mono ?_;rintro _ st ⟨rfl,rfl⟩;simp only[go_sem,zE,zB,zA,zM,zS,zL,reduceCtorEq,fits,yQ2,yQq,yZy,yQn,decide_true,fits])
  | (refine (q_fs gl _ _ _).mono ?_;rintro _ st ⟨rfl,rfl⟩;simp only[go_sem,zE,zA])
  | (refine (q_sq gl _ _ _ _ _).mono ?_;rintro _ st ⟨rfl,rfl⟩;simp only[go_sem,zE,zA,zL,yQn])
  | (refine (q_v gl _ _).mono ?_;rintro _ st ⟨rfl,rfl⟩;simp only[go_sem,zE,zB,zA,zM,zS,zL,reduceCtorEq,fits,yQ2,yQq,yZy,yQn,decide_true,fits]))
 have hB2:=λst=>wY4 gl G T 3 ⟨[zY],[zX]⟩ (.agg [.sl (tagF [zY]) (fmsI [zY]),.sl (tagF [zX]) (fmsI [zX])]) ⟨_,_,_,_,rfl,yKh _,yK9 _ (by decide),yKh _,yK9 _ (by decide)⟩ ⟨zVj (by decide),zVj (by decide)⟩ 14 zX (fmI zX) (xVv zX (by decide)) (by decide) tm0 (tmI tm0) (xK9 tm0) (by decide) qu st;simp only[vK8] at hB2;refine (hB2 _).mono ?_;rintro _ st ⟨tg6,xs6,rfl,ht6,hx6,rfl⟩;simp only[go_sem,zE,zA,zL,yQn]
 repeat (first
  | (refine (q_p gl _ _ _ _).mono ?_;rintro _ st ⟨rfl,rfl⟩;simp only[go_sem,zE,zA,zM,zL,fits,yZy,yQn,fits])
  | (refine (q_no gl _ _ _ _ _ _ _).mono ?_;rintro _ st ⟨rfl,rfl⟩;simp only[go_sem,zE,zB,zA,zM,zS,zL,reduceCtorEq,fits,yQ2,yQq,yZy,yQn,decide_true,fits])
  | (refine (xXg gl _ _ _ _ _ _ _ _ _ _ _ _ _ _).mono ?_;rintro _ st ⟨rfl,rfl⟩;simp only[go_sem,zE,zA,zL,yQn])
  | (refine (q_fs gl _ _ _).mono ?_;rintro _ st ⟨rfl,rfl⟩;simp only[go_sem,zA])
  | (refine (q_sq gl _ _ _ _ _).mono ?_;rintro _ st ⟨rfl,rfl⟩;simp only[go_sem,zA])
  | (refine (q_v gl _ _).mono ?_;rintro _ st ⟨rfl,rfl⟩;simp only[go_sem,zE,zB,zA,zM,zS,zL,reduceCtorEq,fits,yQ2,yQq,yZy,yQn,decide_true,fits]))
 have hD:=λst=>uV9 gl G T ⟨[zD,zD,zP],[]⟩ (.agg [.sl (tagF [zD,zD,zP]) (fmsI [zD,zD,zP]),.sl (tagF []) (fmsI [])]) ⟨_,_,_,_,rfl,yKh _,yK9 _ (by decide),yKh _,yK9 _ (by decide)⟩ ⟨zVj (by decide),zVj (by decide)⟩ (by decide) st;simp only[uVa] at hD;refine (hD _).mono ?_;rintro _ st ⟨⟨y,rfl,hy⟩,rfl⟩;obtain⟨ty1,xy1,ty2,xy2,rfl,ey1,iy1,ey2,iy2⟩:=hy;obtain⟨tw1,xw1,tw2,xw2,rfl,ew1,iw1,ew2,iw2⟩:=hw5;have z1:decide (((1:Nat):Int)=1)=true:=rfl;have z2:decide (((193:Nat):Int)=193)=true:=rfl;have z3:decide (((0:Nat):Int)=0)=true:=rfl;simp only[go_sem,zE,zB,zA,zL,fits,yQn,yQ1 ht5,Int.le_refl,Int.toNat_zero,z1,z3]
 repeat (first
  | (refine (q_p gl _ _ _ _).mono ?_;rintro _ st ⟨rfl,rfl⟩;simp only[go_sem,zE,zA,zM,zL,fits,yQ2,yQq,fits])
  | (refine (q_no gl _ _ _ _ _ _ _).mono ?_;rintro _ st ⟨rfl,rfl⟩;simp only[go_sem,zE,zB,zA,zM,zS,zL,reduceCtorEq,fits,yQ2,yQq,yZy,yQn,decide_true,fits])
  | (refine (xXg gl _ _ _ _ _ _ _ _ _ _ _ _ _ _).mono ?_;rintro _ st ⟨rfl,rfl⟩;simp only[go_sem,zE,zB,zA,zM,zS,zL,reduceCtorEq,fits,yQ2,yQq,yZy,yQn,decide_true,fits])
  | (refine (q_fs gl _ _ _).mono ?_;rintro _ st ⟨rfl,rfl⟩;simp only[go_sem,zE,zA,zL,yQn])
  | (refine (q_sq gl _ _ _ _ _).mono ?_;rintro _ st ⟨rfl,rfl⟩;simp only[go_sem,zE,zA])
  | (refine (q_v gl _ _).mono ?_;rintro _ st ⟨rfl,rfl⟩;simp only[go_sem,zE,zA,zM,zL,fits,yQ2,yQn,fits]))
 have hS1:=λst=>zZa gl ⟨[zP],[zX,zU]⟩ ⟨[zP],[zX,zU]⟩ (.agg [.sl tw1 xw1,.sl tw2 xw2]) (.agg [.sl (tagF [zP]) (fmsI [zP]),.sl (tagF [zX,zU]) (fmsI [zX,zU])]) ⟨_,_,_,_,rfl,ew1,iw1,ew2,iw2⟩ ⟨_,_,_,_,rfl,yKh _,yK9 _ (by decide),yKh _,yK9 _ (by decide)⟩ st;have hS2:=λst=>zZa gl ⟨[zP,zD],[]⟩ ⟨[zP,zD],[]⟩ (.agg [.sl ty1 xy1,.sl ty2 xy2]) (.agg [.sl (tagF [zP,zD]) (fmsI [zP,zD]),.sl (tagF []) (fmsI [])]) ⟨_,_,_,_,rfl,ey1,iy1,ey2,iy2⟩ ⟨_,_,_,_,rfl,yKh _,yK9 _ (by decide),yKh _,yK9 _ (by decide)⟩ st;refine (hS1 _).mono ?_;rintro _ st ⟨rfl,rfl⟩;simp only[go_sem,zE,zA,zL,yQn,show ∀s:Sq,eqB s s=true from λs=>yQm.2 rfl,z2,z3]
 repeat (first
  | (refine (q_p gl _ _ _ _).mono ?_;rintro _ st ⟨rfl,rfl⟩;simp only[go_sem,zE,zA,zM,zL,fits,yQq,fits])
  | (refine (q_no gl _ _ _ _ _ _ _).mono ?_;rintro _ st ⟨rfl,rfl⟩;simp only[go_sem,zE,zB,zA,zM,zS,zL,reduceCtorEq,fits,yQ2,yQq,yZy,yQn,decide_true,fits])
  | (refine (xXg gl _ _ _ _ _ _ _ _ _ _ _ _ _ _).mono ?_;rintro _ st ⟨rfl,rfl⟩;simp only[go_sem,zE,zB,zA,zM,zS,zL,reduceCtorEq,fits,yQ2,yQq,yZy,yQn,decide_true,fits])
  | (refine (q_fs gl _ _ _).mono ?_;rintro _ st ⟨rfl,rfl⟩;simp only[go_sem,zE,zA])
  | (refine (q_sq gl _ _ _ _ _).mono ?_;rintro _ st ⟨rfl,rfl⟩;simp only[go_sem,zE,zA])
  | (refine (q_v gl _ _).mono ?_;rintro _ st ⟨rfl,rfl⟩;simp only[go_sem,zE,zB,zA,zM,zS,zL,reduceCtorEq,fits,yQ2,yQq,yZy,yQn,decide_true,fits]))
 refine (hS2 _).mono ?_;rintro _ st ⟨rfl,rfl⟩;simp only[go_sem,zE,show ∀s:Sq,eqB s s=true from λs=>yQm.2 rfl];exact yQ0 ⟨rfl,rfl⟩
theorem xVg {a:Tr}{x:IV}(h:IsTr a x):IsTrs [a] [x]:=by simp only[IsTrs];exact⟨x,[],rfl,h,rfl⟩
def wZk (t:Tr):Prop:=∀(x:IV) (_:IsTr t x) (_:okT t=true) (_:t.steps<=1000) (st:ISt),ICall prog gl 8 [x] st (λr st'=>IsTr t r/\st'=st)
theorem xG1 (rule:Nat)(s:Sq)(f:Fm)(u:Tm)(n:ByteArray)(sub:List Tr)(IH:∀a∈sub,wZk gl a):wZk gl (.mk rule s f u n sub):=by
 intro x hx hok hst st;obtain⟨tl,xl,tr,xr,op,fn,ta,xa,tb,xb,v,un,tu,xu,ts,xs,rfl,hru,e1,i1,e2,i2,hy,hz,e3,i3⟩:=hx.mk;simp only[Tr.steps] at hst;have hlsub:=yZw sub;have hok2:okTs sub=true:=by
  simp only[okT,bAt] at hok;exact hok.2
 have hnode:wFms s.l+wFms s.r<=300/\wFm f<=300/\wTm u<=300:=by
  simp only[okT,bAt] at hok;exact⟨(yJ2 hok.1).1,(yJ2 hok.1).2.1,(yJ2 hok.1).2.2.1⟩
 have h1:=λst=>zWg gl s (.agg [.sl tl xl,.sl tr xr]) ⟨tl,xl,tr,xr,rfl,e1,i1,e2,i2⟩ (by have:=yJs s.l;omega) (by have:=yJs s.r;omega) st;have h2:=λst=>yUj gl f _ hy (by have:=zXb f;omega) st;have h3:=λst=>zJx gl u _ hz (by have:=yUz u;omega) st;refine ICall.intro (c:=cf prog gl [] [(1,[0,1,2,3,5,6,8,9,11,12,14,4,7,10,13,15])]) func8 rfl (by show _<=38;simp) (by kernel_rfl) ?_;simp only[go_sem,zE,zA,zL];refine (h1 _).mono ?_;rintro _ st ⟨⟨c1,y1,c2,y2,rfl,g1,_,k1,g2,_,k2⟩,rfl⟩;simp only[go_sem,zE,zA];refine (h2 _).mono ?_;rintro r2 st ⟨hr2,rfl⟩;obtain⟨o2,n2,ta2,xa2,tb2,xb2,rfl⟩:=IsFmD.aggs hr2;simp only[go_sem,zE,zA];refine (h3 _).mono ?_;rintro r3 st ⟨hr3,rfl⟩;obtain⟨v3,n3,t3,x3,rfl⟩:=hr3.agg;simp only[go_sem,zE,zA,zL,fits];refine LoopC.ctr sub.length (λk fr st' ds=>(∃tg' ys,fr 3=.box [.raw (.int .u8 rule),.sl c1 y1,.sl c2 y2,.raw (.int .u8 o2),.raw (.string n2),.sl ta2 xa2,.sl tb2 xb2,.raw (.bool v3),.raw (.string n3),.sl t3 x3,.raw (.string n),.sl tg' ys]/\IsTrs (sub.take k) ys/\own st' tg' k 12 st/\subSt st st') /\
  fr 1=.box [.raw (.int .u8 rule),.sl tl xl,.sl tr xr,.raw (.int .u8 op),.raw (.string fn),.sl ta xa,.sl tb xb,.raw (.bool v),.raw (.string un),.sl tu xu,.raw (.string n),.sl ts xs] /\
  fr 2=.box [.raw (.int .u8 0),.sl ⟨true,.nil,0⟩ [],.sl ⟨true,.nil,0⟩ [],.raw (.int .u8 0),.raw (.string ⟨#[]⟩),.sl ⟨true,.nil,0⟩ [],.sl ⟨true,.nil,0⟩ [],.raw (.bool false),.raw (.string ⟨#[]⟩),.sl ⟨true,.nil,0⟩ [],.raw (.string ⟨#[]⟩),.sl ⟨true,.nil,0⟩ []]/\fr 4=.iv (.raw (.int .i64 k))/\ds=[]) ?_ ?_ ?_
 ·simp only[go_sem,zE];exact⟨⟨_,_,rfl,rfl,own.nil _ _ _ _ _,subSt.refl _⟩,rfl⟩
 ·rintro k fr st1 _ hlt ⟨⟨tg',ys,f3,hys,hown,hsub⟩,f1,f2,f4,rfl⟩;obtain⟨a,ha⟩:=yQ3 hlt;have ham:=lMg ha;obtain⟨z,hkz,hzz⟩:=i3.get ha;have hlen2:ys.length=k:=by rw[hys.len,List.length_take];omega
  have hcall:=λst=>IH a ham z hzz (yGf hok2 ham) (by have:=yZl ham;omega) st;obtain⟨rule',tl',xl',tr',xr',op',fn',ta',xa',tb',xb',v',un',tu',xu',n',ts',xs',rfl⟩:=yKc hzz;simp only[go_sem,zE,zB,zA,f1,f3,f4,i3.len,lt_i hlt,yQ1 e3,iNn,hkz,fits];intro _;refine (hcall _).mono ?_;rintro r _ ⟨hr,rfl⟩;have hn:IsTrs (sub.take (k+1)) (ys++[r]):=by
   rw[yQ5 ha];exact hys.append (xVg hr)
  obtain⟨rule',tl',xl',tr',xr',op',fn',ta',xa',tb',xb',v',un',tu',xu',n',ts',xs',rfl⟩:=yKc hr;simp only[go_sem,zE,zA,zM,zL,fits,yQ2];refine yZz hown hlen2 hsub rfl (by simp[fits,IV.one]) (by simp only;omega) (by omega) λtg2 st4 hown2 hsub4 _ hap2=>?_;simp only[go_sem,zE,zA,zL,f1,f2,f3,f4,yQ9 hlt (show sub.length<=281474976710656 by omega)];exact⟨tg2,_,rfl,hn,hown2,hsub4⟩
 ·rintro fr st1 _ ⟨⟨tg',ys,f3,hys,hown,hsub⟩,f1,f2,f4,rfl⟩;rw[lTl] at hys;simp only[go_sem,zE,zA,zL,f1,f2,f3,f4,i3.len,yQj (nLi _)];intro _;refine yQa (st':=st) hsub ⟨?_,rfl⟩;simp only[IsTr];exact⟨_,_,_,_,_,_,_,_,_,_,_,_,_,_,_,_,rfl,hru,g1,k1.1,g2,k2.1,hr2.1,hr3.1,hown.es,hys⟩
theorem xQn:∀(k:Nat)(t:Tr),SizeOf.sizeOf t<k->wZk gl t
 | 0,t,h=>by omega
 | k+1,.mk r sq f u n sub,h=>xG1 gl r sq f u n sub (λa ha=>xQn k a (by
   have:=lSm ha;simp at h;omega))
def xU6 (t:Tr):Prop:=∀(x:IV) (_:IsTr t x) (_:okT t=true) (_:t.steps<=1000) (st:ISt),ICall prog gl 9 [x] st (λr st'=>IsTr t r/\st'=st)
theorem xWp (rule:Nat)(s:Sq)(f:Fm)(u:Tm)(n:ByteArray)(sub:List Tr)(IH:∀a∈sub,xU6 gl a):xU6 gl (.mk rule s f u n sub):=by
 intro x hx hok hst st;obtain⟨tl,xl,tr,xr,op,fn,ta,xa,tb,xb,v,un,tu,xu,ts,xs,rfl,hru,e1,i1,e2,i2,hy,hz,e3,i3⟩:=hx.mk;simp only[Tr.steps] at hst;have hlsub:=yZw sub;have hok2:okTs sub=true:=by
  simp only[okT,bAt] at hok;exact hok.2
 have hnode:wFms s.l+wFms s.r<=300/\wFm f<=300/\wTm u<=300:=by
  simp only[okT,bAt] at hok;exact⟨(yJ2 hok.1).1,(yJ2 hok.1).2.1,(yJ2 hok.1).2.2.1⟩
 have h1:=λst=>zWg gl s (.agg [.sl tl xl,.sl tr xr]) ⟨tl,xl,tr,xr,rfl,e1,i1,e2,i2⟩ (by have:=yJs s.l;omega) (by have:=yJs s.r;omega) st;have h2:=λst=>yUj gl f _ hy (by have:=zXb f;omega) st;have h3:=λst=>zJx gl u _ hz (by have:=yUz u;omega) st;refine ICall.intro (c:=cf prog gl [] [(1,[0,1,2,3,5,6,8,9,11,12,14,4,7,10,13,15])]) func9 rfl (by show _<=38;simp) (by kernel_rfl) ?_;simp only[go_sem,zE,zA,zL];refine (h1 _).mono ?_;rintro _ st ⟨⟨c1,y1,c2,y2,rfl,g1,_,k1,g2,_,k2⟩,rfl⟩;simp only[go_sem,zE,zA];refine (h2 _).mono ?_;rintro r2 st ⟨hr2,rfl⟩;obtain⟨o2,n2,ta2,xa2,tb2,xb2,rfl⟩:=IsFmD.aggs hr2;simp only[go_sem,zE,zA];refine (h3 _).mono ?_;rintro r3 st ⟨hr3,rfl⟩;obtain⟨v3,n3,t3,x3,rfl⟩:=hr3.agg;simp only[go_sem,zE,zA,zL,fits];refine LoopC.ctr sub.length (λk fr st' ds=>(∃tg' ys,fr 3=.box [.raw (.int .u8 rule),.sl c1 y1,.sl c2 y2,.raw (.int .u8 o2),.raw (.string n2),.sl ta2 xa2,.sl tb2 xb2,.raw (.bool v3),.raw (.string n3),.sl t3 x3,.raw (.string n),.sl tg' ys]/\IsTrs (sub.take k) ys/\own st' tg' k 12 st/\subSt st st') /\
  fr 1=.box [.raw (.int .u8 rule),.sl tl xl,.sl tr xr,.raw (.int .u8 op),.raw (.string fn),.sl ta xa,.sl tb xb,.raw (.bool v),.raw (.string un),.sl tu xu,.raw (.string n),.sl ts xs] /\
  fr 2=.box [.raw (.int .u8 0),.sl ⟨true,.nil,0⟩ [],.sl ⟨true,.nil,0⟩ [],.raw (.int .u8 0),.raw (.string ⟨#[]⟩),.sl ⟨true,.nil,0⟩ [],.sl ⟨true,.nil,0⟩ [],.raw (.bool false),.raw (.string ⟨#[]⟩),.sl ⟨true,.nil,0⟩ [],.raw (.string ⟨#[]⟩),.sl ⟨true,.nil,0⟩ []]/\fr 4=.iv (.raw (.int .i64 k))/\ds=[]) ?_ ?_ ?_
 ·simp only[go_sem,zE];exact⟨⟨_,_,rfl,rfl,own.nil _ _ _ _ _,subSt.refl _⟩,rfl⟩
 ·rintro k fr st1 _ hlt ⟨⟨tg',ys,f3,hys,hown,hsub⟩,f1,f2,f4,rfl⟩;obtain⟨a,ha⟩:=yQ3 hlt;have ham:=lMg ha;obtain⟨z,hkz,hzz⟩:=i3.get ha;have hlen2:ys.length=k:=by rw[hys.len,List.length_take];omega
  have hcall:=λst=>IH a ham z hzz (yGf hok2 ham) (by have:=yZl ham;omega) st;obtain⟨rule',tl',xl',tr',xr',op',fn',ta',xa',tb',xb',v',un',tu',xu',n',ts',xs',rfl⟩:=yKc hzz;simp only[go_sem,zE,zB,zA,f1,f3,f4,i3.len,lt_i hlt,yQ1 e3,iNn,hkz,fits];intro _;refine (hcall _).mono ?_;rintro r _ ⟨hr,rfl⟩;have hn:IsTrs (sub.take (k+1)) (ys++[r]):=by
   rw[yQ5 ha];exact hys.append (xVg hr)
  obtain⟨rule',tl',xl',tr',xr',op',fn',ta',xa',tb',xb',v',un',tu',xu',n',ts',xs',rfl⟩:=yKc hr;simp only[go_sem,zE,zA,zM,zL,fits,yQ2];refine yZz hown hlen2 hsub rfl (by simp[fits,IV.one]) (by simp only;omega) (by omega) λtg2 st4 hown2 hsub4 _ hap2=>?_;simp only[go_sem,zE,zA,zL,f1,f2,f3,f4,yQ9 hlt (show sub.length<=281474976710656 by omega)];exact⟨tg2,_,rfl,hn,hown2,hsub4⟩
 ·rintro fr st1 _ ⟨⟨tg',ys,f3,hys,hown,hsub⟩,f1,f2,f4,rfl⟩;rw[lTl] at hys;simp only[go_sem,zE,zA,zL,f1,f2,f3,f4,i3.len,yQj (nLi _)];intro _;refine yQa (st':=st) hsub ⟨?_,rfl⟩;simp only[IsTr];exact⟨_,_,_,_,_,_,_,_,_,_,_,_,_,_,_,_,rfl,hru,g1,k1.1,g2,k2.1,hr2.1,hr3.1,hown.es,hys⟩
theorem zGz:∀(k:Nat)(t:Tr),SizeOf.sizeOf t<k->xU6 gl t
 | 0,t,h=>by omega
 | k+1,.mk r sq f u n sub,h=>xWp gl r sq f u n sub (λa ha=>zGz k a (by
   have:=lSm ha;simp at h;omega))
def wG1 (t:Tr):Prop:=∀(x y:IV) (_:IsTr t x) (_:IsTr t y) (_:t.steps<=1099511627776) (st:ISt),ICall prog gl 19 [x,y] st (λr st'=>r=.raw (.bool true)/\st'=st)
theorem xUp (rule:Nat)(s:Sq)(f:Fm)(u:Tm)(n:ByteArray)(sub:List Tr)(IH:∀a∈sub,wG1 gl a):wG1 gl (.mk rule s f u n sub):=by
 intro x y hx hy hst st;obtain⟨tl,xl,tr,xr,op,fn,ta,xa,tb,xb,v,un,tu,xu,ts,xs,rfl,hru,e1,i1,e2,i2,hyf,hz,e3,i3⟩:=hx.mk;obtain⟨tl2,xl2,tr2,xr2,op2,fn2,ta2,xa2,tb2,xb2,v2,un2,tu2,xu2,ts2,xs2,rfl,hru2,e12,i12,e22,i22,hyf2,hz2,e32,i32⟩:=hy.mk;simp only[Tr.steps] at hst;have hlsub:=yZw sub;have h1:=λst=>zZa gl s s (.agg [.sl tl xl,.sl tr xr]) (.agg [.sl tl2 xl2,.sl tr2 xr2]) ⟨_,_,_,_,rfl,e1,i1,e2,i2⟩ ⟨_,_,_,_,rfl,e12,i12,e22,i22⟩ st;have h2:=λst=>zJv gl f f _ _ hyf hyf2 st;have h3:=λst=>xJ2 gl u u _ _ hz hz2 st;have hs1:eqB s s=true:=yQm.2 rfl;have hs2:eqB f f=true:=yQm.2 rfl;have hs3:eqB u u=true:=yQm.2 rfl;refine iI func19 ?_;simp only[go_sem,zE,zA,zL,decide_true];refine (h1 _).mono ?_;rintro _ st ⟨rfl,rfl⟩;simp only[go_sem,zE,zA,zL,hs1];refine (h2 _).mono ?_;rintro _ st ⟨rfl,rfl⟩;simp only[go_sem,zE,zA,zL,hs2];refine (h3 _).mono ?_;rintro _ st ⟨rfl,rfl⟩;simp only[go_sem,zE,zA,hs3,decide_true,i3.len,i32.len];intros;refine LoopC.ctr sub.length (λk fr st' ds=>fr 2=.box [.raw (.int .u8 rule),.sl tl xl,.sl tr xr,.raw (.int .u8 op),.raw (.string fn),.sl ta xa,.sl tb xb,.raw (.bool v),.raw (.string un),.sl tu xu,.raw (.string n),.sl ts xs] /\
  fr 3=.box [.raw (.int .u8 rule),.sl tl2 xl2,.sl tr2 xr2,.raw (.int .u8 op2),.raw (.string fn2),.sl ta2 xa2,.sl tb2 xb2,.raw (.bool v2),.raw (.string un2),.sl tu2 xu2,.raw (.string n),.sl ts2 xs2]/\fr 5=.iv (.raw (.int .i64 k))/\st'=st/\ds=[]) ?_ ?_ ?_
 ·simp only[go_sem,zE];rfl
 ·rintro k fr st1 _ hlt ⟨f2,f3,f5,rfl,rfl⟩;obtain⟨a,ha⟩:=yQ3 hlt;have ham:=lMg ha;obtain⟨z,hkz,hzz⟩:=i3.get ha;obtain⟨z2,hkz2,hzz2⟩:=i32.get ha;have hcall:=λst=>IH a ham z z2 hzz hzz2 (by have:=yZl ham;omega) st;obtain⟨rule',tl',xl',tr',xr',op',fn',ta',xa',tb',xb',v',un',tu',xu',n',ts',xs',rfl⟩:=yKc hzz;obtain⟨rule',tl',xl',tr',xr',op',fn',ta',xa',tb',xb',v',un',tu',xu',n',ts',xs',rfl⟩:=yKc hzz2;simp only[go_sem,zE,zB,zA,f2,f3,f5,i3.len,lt_i hlt,yQ1 e3,yQ1 e32,iNn,hkz,hkz2,fits];intros;refine (hcall _).mono ?_;rintro _ st2 ⟨rfl,rfl⟩;simp only[go_sem,zE,f2,f3,f5,yQ9 hlt (show sub.length<=281474976710656 by omega)]
 ·rintro fr st1 _ ⟨f2,f3,f5,rfl,rfl⟩;simp only[go_sem,zE,f2,f5,i3.len,yQj (nLi _)];intros;exact yQ0 ⟨rfl,rfl⟩
theorem xKh:∀(k:Nat)(t:Tr),SizeOf.sizeOf t<k->wG1 gl t
 | 0,t,h=>by omega
 | k+1,.mk r sq f u n sub,h=>xUp gl r sq f u n sub (λa ha=>xKh k a (by
   have:=lSm ha;simp at h;omega))
set_option maxHeartbeats 1000000 in
theorem wV6 (G:Gl gl)(T:Gt gl)(ca:Nat)(t:Tr)(x:IV)(hx:IsTr t x)(hok:okT t=true)(hst:t.steps<=1000)(st:ISt) :
  ICall prog gl 5 [.raw (.int .u8 ca),x] st (λr st'=>r=.raw (.bool true)/\st'=st):=by
 have hG:=λst=>xQn gl _ t (Nat.lt_succ_self _) x hx hok (by omega) st;have hx0:=hx;obtain⟨rule',tl',xl',tr',xr',op',fn',ta',xa',tb',xb',v',un',tu',xu',n',ts',xs',rfl⟩:=yKc hx;refine ICall.intro (c:=cf prog gl [] [(5,[0,1,2,3,4,5,6,7,8,9,11,10,12,13,14,15,16,18,17,19,20,21,22,23,25,24,26,27,28,29,30,31,32,33,34])]) func5 rfl (by show _<=61;simp) (by kernel_rfl) ?_;simp only[go_sem,zE,zA,zL];refine (hG _).mono ?_;rintro r st ⟨hr,rfl⟩;have hT:=λst=>zGz gl _ t (Nat.lt_succ_self _) r hr hok (by omega) st;have hC2:=λst=>wJy gl G ca t r hr hok (by omega) st;have hS2:=λst=>xKo gl t r hr (by omega) st;have hH2:=λst=>wQ2 gl t r hr (by omega) st;have hU2:=λst=>wGc gl t r hr (by omega) st;obtain⟨rule2,tl2,xl2,tr2,xr2,op2,fn2,ta2,xa2,tb2,xb2,v2,un2,tu2,xu2,n2,ts2,xs2,rfl⟩:=yKc hr;simp only[go_sem,zE,zA,zL];refine (hT _).mono ?_;rintro q st ⟨hq,rfl⟩;have hC1:=λst=>zV3 gl G T ca t q hq (vK0 (wQg hok) (by omega)) st;have hS1:=λst=>wXy gl t q hq (by omega) st;have hH1:=λst=>xWh gl t q hq (by omega) st;have hU1:=λst=>wY3 gl t q hq (by omega) st;have hM:=λst=>xKh gl _ t (Nat.lt_succ_self _) q _ hq hx0 (by omega) st;obtain⟨rule3,tl3,xl3,tr3,xr3,op3,fn3,ta3,xa3,tb3,xb3,v3,un3,tu3,xu3,n3,ts3,xs3,rfl⟩:=yKc hq;simp only[go_sem,zE,zA,zL,reduceCtorEq];refine (hC1 _).mono ?_;rintro _ st ⟨⟨g1,rfl,hg1⟩,rfl⟩;simp only[go_sem,zE,zA,zL,reduceCtorEq];refine (hC2 _).mono ?_;rintro _ st ⟨⟨g2,rfl,hg2⟩,rfl⟩;generalize yXk ca t=w;obtain⟨p,e⟩:=w;have hSI:=λst=>xGl gl g1 g2 p p hg1 hg2 st;simp only[go_sem,zE,zA];refine (hSI _).mono ?_;rintro _ st ⟨rfl,rfl⟩;have hp:eqB p p=true:=yQm.2 rfl;simp only[go_sem,zE,zA,zL,hp,decide_true];refine (hS1 _).mono ?_;rintro _ st ⟨rfl,rfl⟩;simp only[go_sem,zE,zA];refine (hS2 _).mono ?_;rintro _ st ⟨rfl,rfl⟩;simp only[go_sem,zE,zA,zL,decide_true];refine (hH1 _).mono ?_;rintro _ st ⟨rfl,rfl⟩;simp only[go_sem,zE,zA];refine (hH2 _).mono ?_;rintro _ st ⟨rfl,rfl⟩;simp only[go_sem,zE,zA,zL,decide_true];refine (hU1 _).mono ?_;rintro _ st ⟨rfl,rfl⟩;simp only[go_sem,zE,zA];refine (hU2 _).mono ?_;rintro _ st ⟨rfl,rfl⟩;simp only[go_sem,zE,zA,zL,decide_true];refine (hM _).mono ?_;rintro _ st ⟨rfl,rfl⟩;simp only[go_sem,zE];exact yQ0 ⟨rfl,rfl⟩
theorem zVn (G:Gl gl)(T:Gt gl)(ca:Nat)(t:Tr)(x:IV)(hx:IsTr t x)(hw:wTr t<=1099511627776)(st:ISt) :
  ICall prog gl 3 [.raw (.int .u8 ca),x] st (λr st'=>r=.raw (.bool true)/\st'=st):=by
 have hA:=λst=>wK1 gl G T st;have hS:=λst=>wVq gl t x hx hw st;have hK:=λhok (hst:t.steps<=60) st=>wV6 gl G T ca t x hx hok (by omega) st;obtain⟨rule',tl',xl',tr',xr',op',fn',ta',xa',tb',xb',v',un',tu',xu',n',ts',xs',rfl⟩:=yKc hx;refine iI func3 ?_;simp only[go_sem,zE,zA,zL];refine (hS _).mono ?_;rintro _ st ⟨rfl,rfl⟩;cases hsm:(okT t&&decide (t.steps<=60))
 ·simp only[go_sem,zE,zA];refine (hA _).mono ?_;rintro _ st ⟨rfl,rfl⟩;simp only[go_sem,zE];exact yQ0 ⟨rfl,rfl⟩
 ·rw[bAt,dTe] at hsm;simp only[go_sem,zE,zA,zL,reduceCtorEq];refine (hK hsm.1 hsm.2 _).mono ?_;rintro _ st ⟨rfl,rfl⟩;simp only[go_sem,zE,zA];refine (hA _).mono ?_;rintro _ st ⟨rfl,rfl⟩;simp only[go_sem,zE];exact yQ0 ⟨rfl,rfl⟩
end Go.Proofs.Tryz
namespace Go.Proofs.Tryz
open Go Go.Iv Go.ChangeShapes
open Go.Proofs.YtnknaopjcifoaaaGreatDoor.Rows (uptoBulk uptoBulkAll)
set_option maxRecDepth 4000
theorem uSeq:prog.underlying 24=some (.struct #[⟨ "Left",22,0,false, "", "",0⟩,⟨ "Right",22,1,false, "", "",24⟩]):=by kernel_rfl
theorem vZb:prog.underlying 32=some (.struct #[⟨ "Rule",5,0,false, "", "",0⟩,⟨ "Seq",24,1,false, "", "",8⟩,⟨ "Main",27,3,false, "", "",56⟩,⟨ "Term",29,7,false, "", "",128⟩,⟨ "Name",9,10,false, "", "",176⟩,⟨ "Sub",30,11,false, "", "",192⟩]):=by kernel_rfl
theorem vZa:prog.underlying 30=some (.slice 32):=by kernel_rfl
theorem nSeq:prog.cellsOf 24=2:=by kernel_rfl
theorem vXa:prog.cellsOf 32=12:=by kernel_rfl
mutual
theorem xK2:∀t:Tm,wTm t<=2*xGe t
 | .mk _ n us=>by have:=zXu us;simp only[wTm,xGe];omega
theorem zXu:∀l:List Tm,wTms l<=2*yU3 l
 | []=>Nat.le_refl _
 | a::l=>by have:=xK2 a;have:=zXu l;simp only[wTms,yU3];omega
end
mutual
theorem xK3:∀f:Fm,wFm f<=2*xGf f
 | .mk _ n us sub=>by have:=zXu us;have:=yUt sub;simp only[wFm,xGf];omega
theorem yUt:∀l:List Fm,wFms l<=2*zQs l
 | []=>Nat.le_refl _
 | a::l=>by have:=xK3 a;have:=yUt l;simp only[wFms,zQs];omega
end
section
variable {H:Type}{enc:TypeId×Value->H}{w:World}{spare:Nat->Bool}{held:Bool}
def RQ (d:DataW H)(s:Sq)(x:IV):Prop:=IsSq s x/\wFms s.l+wFms s.r<=2*uptoBulk d
theorem vZn (fuel:Nat)(cs:List Value)(y:DataW H×List MemPlace)(h:DataW.trod enc prog w 0 spare held fuel 24 cs=some y)(hb:uptoBulk y.1<=1048576):∃s x,VL 0 (L0 w) w cs x.cells/\RQ y.1 s x:=by
 obtain⟨ys,n,rfl,rfl,hl,hlen,hf⟩:=DataW.trod_struct uSeq h
 match ys,hlen with
 | [y0,y1],_ =>
  rw[nSeq] at hl
  match cs,hl with
  | [c0,c1],_ =>
   have h0:=hf 0 _ rfl;have h1:=hf 1 _ rfl;simp only[List.getElem?_cons_zero,List.getElem?_cons_succ] at h0 h1;simp only[List.map_cons,List.map_nil,uptoBulk,uptoBulkAll] at hb;obtain⟨v0,tg0,xs0,l0,e0,hv0,ht0,hl0,hb0⟩:=zG9 h0 (by omega) (λm _=>xJd m);obtain⟨v1,tg1,xs1,l1,e1,hv1,ht1,hl1,hb1⟩:=zG9 h1 (by omega) (λm _=>xJd m);cases e0;cases e1;refine⟨⟨l0,l1⟩,.agg [.sl tg0 xs0,.sl tg1 xs1],VL.cons hv0 (VL.cons hv1 VL.nil),⟨tg0,xs0,tg1,xs1,rfl,ht0,hl0,ht1,hl1⟩,?_⟩;have:=yUt l0;have:=yUt l1;simp only[List.map_cons,List.map_nil,uptoBulk,uptoBulkAll];omega
theorem xQf:∀ {us:List Tr}{xs:List IV},us.length=xs.length->(∀(i:Nat)(a:Tr)(x:IV),us[i]?=some a->xs[i]?=some x->IsTr a x)->IsTrs us xs
 | [],xs,h,_=>by simpa[IsTrs] using h.symm
 | a::us,[],h,_=>by simp at h
 | a::us,x::xs,h,hh=>⟨x,xs,rfl,hh 0 a x rfl rfl,xQf (by simpa using h) (λi b y hb hy=>hh (i+1) b y (by simpa using hb) (by simpa using hy))⟩
theorem xK0:∀ {us:List Tr}{ds:List (DataW H)},us.length=ds.length->(∀(i:Nat)(a:Tr)(d:DataW H),us[i]?=some a->ds[i]?=some d->wTr a+a.steps<=2*uptoBulk d)->wTrs us+yQl us<=2*uptoBulkAll ds
 | [],ds,h,_=>by simp[wTrs,yQl]
 | a::us,[],h,_=>by simp at h
 | a::us,x::xs,h,hh=>by
  have h1:=hh 0 a x rfl rfl;have h2:=xK0 (us:=us) (ds:=xs) (by simpa using h) (λi b y hb hy=>hh (i+1) b y (by simpa using hb) (by simpa using hy));simp only[wTrs,yQl,uptoBulkAll];omega
def RR (d:DataW H)(t:Tr)(x:IV):Prop:=IsTr t x/\wTr t+t.steps<=2*uptoBulk d
theorem RR.cells {d:DataW H}{t:Tr}{x:IV}(h:RR d t x):x.cells.length=12:=by
 obtain⟨_,_,_,_,_,_,_,_,_,_,_,_,_,_,_,_,_,_,rfl⟩:=yKc h.1;rfl
theorem wJb {fuel:Nat}{cs:List Value}{y:DataW H×List MemPlace}(h:DataW.trod enc prog w 0 spare held fuel 30 cs=some y)(hb:uptoBulk y.1<=1048576)
  (IH:∀(n:Nat),n<fuel->∀(cs:List Value) (y:DataW H×List MemPlace),DataW.trod enc prog w 0 spare held n 32 cs=some y->uptoBulk y.1<=1048576->∃t x,VL 0 (L0 w) w cs x.cells/\RR y.1 t x) :
  ∃v tg xs ts,cs=[v]/\V 0 (L0 w) w v (.sl tg xs)/\okEs tg 12/\IsTrs ts xs/\wTrs ts+yQl ts+1<=2*uptoBulk y.1:=by
 obtain⟨v,tg,xs,ts,rfl,hv,htg,hl,hc⟩:=xXl (H:=H) (P:=prog) (d:=y.1) (p:=y.2) RR vZa vXa (by decide) h (λelems sp e=>by
   have:=yVa elems sp;have:=zQc elems;rw[<- e] at *;omega) (λd t x h=>h.cells) (λn hn cs' z q ⟨elems,sp,he,hm⟩ hz=>by
   have:=yVa elems sp;have:=zYr hm;rw[he] at hb;exact IH n (by omega) cs' (z,q) hz (show uptoBulk z<=1048576 by omega))
 refine⟨v,tg,xs,ts,rfl,hv,htg,?_⟩;rcases hc with⟨hd,rfl⟩|⟨elems,sp,hd,hel,hr⟩
 ·obtain rfl:ts=[]:=List.length_eq_zero_iff.1 (by simpa using hl);exact⟨rfl,by rw[hd];simp[wTrs,yQl,uptoBulk]⟩
 ·have hi:∀(i:Nat) (a:Tr),ts[i]?=some a->∃x d,xs[i]?=some x/\elems[i]?=some d/\RR d a x:=λi a ha=>by
   have hi:=(lGs ha).1;exact⟨_,_,List.getElem?_eq_getElem (by omega),List.getElem?_eq_getElem (by omega),hr i _ _ _ (List.getElem?_eq_getElem (by omega)) ha (List.getElem?_eq_getElem (by omega))⟩
  refine⟨xQf hl (λi a x ha hx=>?_),?_⟩
  ·obtain⟨x',d,h1,h2,h3⟩:=hi i a ha;rw[hx] at h1;cases h1;exact h3.1
  ·have:=xK0 (us:=ts) (ds:=elems) (by omega) (λi a d ha hd'=>by
    obtain⟨x',d',h1,h2,h3⟩:=hi i a ha;rw[hd'] at h2;cases h2;exact h3.2)
   have:=yVa elems sp;grind
theorem cs12 {cs:List Value}(h:cs.length=12):∃a b c d e f g h i j k l,cs=[a,b,c,d,e,f,g,h,i,j,k,l]:=by
 match cs,h with
 | [a,b,c,d,e,f,g,h,i,j,k,l],_=>exact⟨a,b,c,d,e,f,g,h,i,j,k,l,rfl⟩
theorem wYe:∀(fuel:Nat)(cs:List Value)(y:DataW H×List MemPlace),DataW.trod enc prog w 0 spare held fuel 32 cs=some y->uptoBulk y.1<=1048576->∃t x,VL 0 (L0 w) w cs x.cells/\RR y.1 t x:=by
 intro fuel
 induction fuel using Nat.strongRecOn with
 | ind fuel IH =>
  intro cs y h hb;obtain⟨ys,n,rfl,rfl,hl,hlen,hf⟩:=DataW.trod_struct vZb h
  match ys,hlen with
  | [y0,y1,y2,y3,y4,y5],_ =>
   rw[vXa] at hl;obtain⟨c0,c1,c2,c3,c4,c5,c6,c7,c8,c9,c10,c11,rfl⟩:=cs12 hl;have h0:=hf 0 _ rfl;have h1:=hf 1 _ rfl;have h2:=hf 2 _ rfl;have h3:=hf 3 _ rfl;have h4:=hf 4 _ rfl;have h5:=hf 5 _ rfl;simp only[List.getElem?_cons_zero,List.getElem?_cons_succ] at h0 h1 h2 h3 h4 h5;simp only[List.map_cons,List.map_nil,uptoBulk,uptoBulkAll] at hb;obtain⟨op,e0,rfl,hop⟩:=DataW.trod_int uU8 h0;obtain⟨s,xs,hvs,hs1,hs2⟩:=vZn n _ _ h1 (by omega);obtain⟨f,xf,hvf,hf1,hf2⟩:=xJd n _ _ h2 (by omega);obtain⟨t,xt,hvt,ht1,ht2⟩:=xU5 n _ _ h3 (by omega);obtain⟨nm,e4,hn,hn2⟩:=xUb h4 (by omega);obtain⟨v,tg,xb,ts,e5,hv,htg,hts,hbk⟩:=wJb h5 (by omega) (λm hm=>IH m (by omega));cases e0;cases e4;cases e5;have hop:0<=op/\op<256:=by
    simp only[Lit.wf,IntKind.min,IntKind.max,IntKind.signed,IntKind.bits,bAt] at hop;grind
   obtain⟨k,rfl⟩:=Int.eq_ofNat_of_zero_le hop.1;obtain⟨tl,xl,tr,xr,rfl,k1,k2,k3,k4⟩:=hs1;have hf0:=hf1;have ht0:=ht1;obtain⟨o,fn,us,sub⟩:=f;obtain⟨ta,xa,tb,xb',rfl,_⟩:=hf1.mk;obtain⟨b,un,uu⟩:=t;obtain⟨tu,xu,rfl,_⟩:=ht1.mk;refine⟨.mk k s (.mk o fn us sub) (.mk b un uu) nm ts,.agg [.raw (.int .u8 k),.sl tl xl,.sl tr xr,.raw (.int .u8 o),.raw (.string fn),.sl ta xa,.sl tb xb',.raw (.bool b),.raw (.string un),.sl tu xu,.raw (.string nm),.sl tg xb],
    VL.cons (.raw _ trivial) (hvs.append (hvf.append (hvt.append (VL.cons hn (VL.cons hv VL.nil))))),?_,?_⟩
   ·simp only[IsTr];grind
   ·have:=xK3 (.mk o fn us sub);have:=xK2 (.mk b un uu);simp only[List.map_cons,List.map_nil,uptoBulk,uptoBulkAll,wTr,Tr.steps];omega
end
end Go.Proofs.Tryz
namespace Go.Proofs.Tryz
open Go Go.Iv Go.ChangeShapes Go.RowKit
open Go.Proofs.YtnknaopjcifoaaaGreatDoor
set_option maxRecDepth 8000
theorem uRow:prog.underlying 192=some (.struct #[⟨ "right",4,0,false, "", "lyceum/syntax",0⟩,⟨ "schema",4,1,false, "", "lyceum/syntax",1⟩,⟨ "name",5,2,false, "", "lyceum/syntax",2⟩,⟨ "args",3,3,false, "", "lyceum/syntax",8⟩,⟨ "subs",3,4,false, "", "lyceum/syntax",16⟩]):=by kernel_rfl
theorem vYr:prog.underlying 193=some (.array 17 192):=by kernel_rfl
theorem uInt:prog.underlying 3=some (.int .i64):=by kernel_rfl
theorem nRow:prog.cellsOf 192=5:=by kernel_rfl
theorem uZ9:prog.cellsOf 193=85:=by kernel_rfl
theorem gRows:prog.globalNamed "lyceum/syntax.rows" = some 0:=by kernel_rfl
theorem gRowsT:(prog.globals[0]?).map (·.type)=some 193:=by kernel_rfl
theorem gPow:prog.globalNamed "internal/strconv.uint64pow10" = some 2:=by kernel_rfl
theorem gPowT:(prog.globals[2]?).map (·.type)=some 256:=by kernel_rfl
theorem uPow:prog.underlying 256=some (.array 20 175):=by kernel_rfl
theorem uU64:prog.underlying 175=some (.int .u64):=by kernel_rfl
theorem nPow:prog.cellsOf 256=20:=by kernel_rfl
theorem nU64:prog.cellsOf 175=1:=by kernel_rfl
section
variable {H:Type}{enc:TypeId×Value->H}{w:World}{spare:Nat->Bool}{held:Bool}
def rowD (op:Nat):DataW H:=.agg [.lit (.bool (yZd op)),.lit (.bool (zJg op)),.lit (.int .u8 (yXs op)),.lit (.int .i64 (yXm op)),.lit (.int .i64 (yXl op))]
def rowV (op:Nat):List Value:=[.bool (yZd op),.bool (zJg op),.int .u8 (yXs op),.int .i64 (yXm op),.int .i64 (yXl op)]
theorem xUw {fuel:Nat}{cs:List Value}{op:Nat}{p:List MemPlace}(h:DataW.trod enc prog w 0 spare held fuel 192 cs=some (rowD op,p)):cs=rowV op:=by
 obtain⟨ys,n,rfl,he,hl,hlen,hf⟩:=DataW.trod_struct uRow h
 match ys,hlen with
 | [y0,y1,y2,y3,y4],_ =>
  rw[nRow] at hl
  match cs,hl with
  | [c0,c1,c2,c3,c4],_ =>
   have h0:=hf 0 _ rfl;have h1:=hf 1 _ rfl;have h2:=hf 2 _ rfl;have h3:=hf 3 _ rfl;have h4:=hf 4 _ rfl;simp only[List.getElem?_cons_zero,List.getElem?_cons_succ] at h0 h1 h2 h3 h4;obtain⟨b0,e0,rfl⟩:=DataW.trod_bool xU1 h0;obtain⟨b1,e1,rfl⟩:=DataW.trod_bool xU1 h1;obtain⟨b2,e2,rfl,_⟩:=DataW.trod_int uU8 h2;obtain⟨b3,e3,rfl,_⟩:=DataW.trod_int uInt h3;obtain⟨b4,e4,rfl,_⟩:=DataW.trod_int uInt h4;cases e0;cases e1;cases e2;cases e3;cases e4;have he1:=congrArg Prod.fst he;simp only[rowD,List.map_cons,List.map_nil,DataW.agg.injEq,List.cons.injEq,DataW.lit.injEq,Lit.bool.injEq,Lit.int.injEq,true_and,and_true] at he1;obtain⟨rfl,rfl,rfl,rfl,rfl⟩:=he1;rfl
theorem xUv:(Rows.laid_lyceum_syntax_rows:DataW H)=.agg ((List.range 17).map rowD):=by rfl
theorem xY8 {fuel:Nat}{cs:List Value}{p:List MemPlace}(h:DataW.trod enc prog w 0 spare held fuel 193 cs=some (Rows.laid_lyceum_syntax_rows,p)) :
  cs.length=85/\∀op,op<17->(cs.drop (op*5)).take 5=rowV op:=by
 obtain⟨ys,n,rfl,he,hl,hlen,hf⟩:=DataW.trod_array vYr h;rw[uZ9] at hl;refine⟨hl,λop hop=>?_⟩;have h1:=hf op hop;rw[nRow] at h1;have he1:=congrArg Prod.fst he;rw[xUv] at he1;simp only[DataW.agg.injEq] at he1;have h2:(ys.map (·.1))[op]?=some (rowD op):=by
  rw[<- he1,List.getElem?_map,List.getElem?_range hop];rfl
 rw[List.getElem?_map] at h2;obtain⟨y,hy,hy2⟩:=Option.map_eq_some_iff.1 h2;rw[hy] at h1;obtain⟨y1,y2⟩:=y;simp only at hy2;subst hy2;exact xUw h1
end
def gl0:Nat->Option IV
 | 0=>some (.agg rowsL)
 | 2=>some (.agg pow10L)
 | _=>none
theorem G0:Gl gl0:=⟨rfl⟩
theorem T0:Gt gl0:=⟨rfl⟩
def X0 (w:World):WS:={ w:=w,L:=L0 w,st:=λ_=>none,d:=0 }
theorem xX9 {cs:List Value}(hl:cs.length=85)(h:∀op,op<17->(cs.drop (op*5)).take 5=rowV op)(i:Nat)(r:Value)(c:IV)(hr:cs[i]?=some r)(hc:rowsL[i]?=some c):c=.raw r/\zYk r:=by
 have hi:i<85:=by have:=(lGs hr).1;omega
 have hop:i / 5<17:=by omega
 have e:i=i / 5*5+i%5:=by omega
 have hm:i%5<5:=Nat.mod_lt _ (by decide);have h1:(rowV (i / 5))[i%5]?=some r:=by
  rw[<- h _ hop,List.getElem?_take,if_pos hm,List.getElem?_drop,<- e];exact hr
 have h2:(rowI (i / 5))[i%5]?=some c:=by
  rw[<- (zVx _ hop).2,List.getElem?_take,if_pos hm,List.getElem?_drop,<- e];exact hc
 generalize i%5=k at h1 h2 hm
 match k,hm with
 | 0,_=>cases h1;cases h2;exact⟨rfl,trivial⟩
 | 1,_=>cases h1;cases h2;exact⟨rfl,trivial⟩
 | 2,_=>cases h1;cases h2;exact⟨rfl,trivial⟩
 | 3,_=>cases h1;cases h2;exact⟨rfl,trivial⟩
 | 4,_=>cases h1;cases h2;exact⟨rfl,trivial⟩
theorem uZr {W:World}(hL:laidMetH prog Rows.sequentTellsUptoRow.laid W):Go.Iv.Good ⟨prog,gl0,0⟩ (X0 W):=by
 obtain⟨ps,hlv,_⟩:=(show laidMet prog _ W from hL)
 obtain⟨_,_,_,_,_,_,_,_,_,_,hlv,_⟩:=hlv;obtain⟨_,_,_,_,_,_,_,_,_,_,hlv,_⟩:=hlv;obtain⟨g1,t1,cs1,f1,p1,q1,hg1,ht1,hv1,hd1,hlv,_⟩:=hlv;obtain⟨g2,t2,cs2,f2,p2,q2,hg2,ht2,hv2,hd2,_,_⟩:=hlv;obtain rfl:=Option.some.inj (gPow.symm.trans hg1);obtain rfl:=Option.some.inj (gPowT.symm.trans ht1);obtain rfl:=Option.some.inj (gRows.symm.trans hg2);obtain rfl:=Option.some.inj (gRowsT.symm.trans ht2);have hc1:=Lib.cells_of_tab (zs:=Lib.pow10Tab) uPow uU64 nU64 nPow hd1;have hc2:=xY8 hd2;have hb:∀(n:String) (g:Nat) (cs:Array Value),prog.globalNamed n=some g->W.var? prog n=some cs->∃T f,W.heap[g]?=some (.cells cs T f):=by
  intro n g cs hn hv;unfold World.var? at hv;rw[hn,Option.bind_some] at hv;split at hv
  ·rename_i c t f hh;cases hv;exact⟨_,_,hh⟩
  ·cases hv
 obtain⟨T1,fr1,hh1⟩:=hb _ _ _ gPow hv1;obtain⟨T2,fr2,hh2⟩:=hb _ _ _ gRows hv2;have row:∀(g:Nat) (cs:Array Value) (T:TypeId) (f:Nat×Nat) (xs:List IV),W.heap[g]?=some (.cells cs T f)->cs.size=xs.length->(∀(i:Nat) (r:Value) (c:IV),cs.toList[i]?=some r->xs[i]?=some c->c=.raw r/\zYk r) →
   V 0 (L0 W) W (.pointer (some ⟨g,0,none⟩)) (.cptr (.agg xs)):=by
  intro g cs T f xs hh hl h;refine .cptr _ _ cs.toList rfl (by simpa[IV.cells] using hl) ?_ (λi r hr=>?_) (λi r c hr hc=>?_)
  ·show 0+cs.toList.length<=L0 W g;simp[L0,hh]
  ·show W.cell? ⟨g,0+i,none⟩=some r;simp only[World.cell?,hh,Nat.zero_add];simpa using hr
  ·obtain⟨rfl,hk⟩:=h i r c hr hc;exact .raw _ hk
 have hp:∀(i:Nat) (r:Value) (c:IV),cs1.toList[i]?=some r->pow10L[i]?=some c->c=.raw r/\zYk r:=by
  intro i r c hr hc;rw[hc1,List.getElem?_map] at hr;unfold pow10L at hc;rw[List.getElem?_map] at hc;obtain⟨z,hz,rfl⟩:=Option.map_eq_some_iff.1 hr;rw[hz] at hc;cases hc;exact⟨rfl,trivial⟩
 have hs1:cs1.size=pow10L.length:=by
  rw[<- Array.length_toList,hc1];simp[pow10L]
 have hs2:cs2.size=rowsL.length:=by
  rw[<- Array.length_toList,hc2.1];rfl
 refine⟨λb o h=>(by cases h),λg x hx=>?_,Nat.zero_le _,λb hb=>?_,λg x hx=>?_,λ_=>Nat.zero_le _⟩
 ·match g,hx with
  | 0,hx=>cases hx;exact row 0 cs2 T2 fr2 _ hh2 hs2 (λi r c hr hc=>xX9 hc2.1 hc2.2 i r c hr hc)
  | 2,hx=>cases hx;exact row 2 cs1 T1 fr1 _ hh1 hs1 hp
 ·show L0 W b=0;unfold L0;rw[Array.getElem?_eq_none (show W.heap.size<=b from hb)]
 ·match g,hx with
  | 0,hx=>cases hx;exact⟨T2,fr2 == (0,0),by show shq W 0=_;simp[shq,hh2,hs2,IV.cells]⟩
  | 2,hx=>cases hx;exact⟨T1,fr1 == (0,0),by show shq W 2=_;simp[shq,hh1,hs1,IV.cells]⟩
theorem xZe {W:World}{X':WS}(h:Ext (X0 W) X'):Below W.heap.size W X'.w :=
 ⟨h.os,h.tape,h.output,h.size,λk hk=>(h.keep k hk rfl).1⟩
theorem wGr:laidOutB prog=true:=by kernel_rfl
theorem yUw {H:Type}{enc:TypeId×Value->H}{W W':World}(hb:Below W.heap.size W W')(sp:Nat->Bool):∀ {ts:List TypeId} {vs:List Value} {ds:List (DataW H)} {ps:List MemPlace},
  (∀t∈ts,prog.readableRec t=true/\t<prog.types.size)->DataW.TrodAll enc prog W 0 (λ_=>true) true ts vs ds ps->(∀p∈ps,p.block<W.heap.size)->(∀p∈ps,sp p.block=true) →
  DataW.TrodAll enc prog W' 0 sp true ts vs ds ps
 | [],vs,ds,ps,_,h,_,_=>by
  obtain⟨rfl,rfl,rfl⟩:=trodAll_nil h;rfl
 | t::ts,vs,ds,ps,ht,h,hlt,hsp=>by
  obtain⟨v,vs1,d,ds1,a,b,rfl,rfl,rfl,h1,h2⟩:=trodAll_cons h;refine⟨a,b,WideElems.Trod_stays wGr (ht t (by simp)).1 (ht t (by simp)).2 h1 (λp hp=>hb.same (hlt p (by simp[hp]))) (λp hp=>hsp p (by simp[hp])),?_,rfl⟩;exact yUw hb sp (λt h=>ht t (by simp[h])) h2 (λp hp=>hlt p (by simp[hp])) (λp hp=>hsp p (by simp[hp]))
theorem wKo {H:Type}{enc:TypeId×Value->H}{f:Func}{s:ChangeSpec}{fid:FuncId}{W:World}{args:Array Value}{ds gs:List (DataW H)}{before:List MemPlace}{ivs:List IV}
  (hvars:s.vars=[]) (hW:DataW.Whole enc prog f.params.toList s.vars false W args.toList ds gs before) (hfn:s.fn H (ds++gs)={ results:=[.lit (.bool true)],args:=ds })
  (hres:f.resultTypes=#[4]) (hread:∀t∈f.params.toList,prog.readableRec t=true/\t<prog.types.size) (hg:Go.Iv.Good ⟨prog,gl0,0⟩ (X0 W)) (hv:VL 0 (L0 W) W args.toList ivs)
  (hc:ICall prog gl0 fid ivs (λ_=>none) (λr st'=>r=.raw (.bool true)/\st'=λ_=>none)) :
  Calls prog fid args W λe W'=>∃v,e=.returned v/\s.post enc prog f false true false false W args v W':=by
 refine (hc 0 (X0 W) args.toList hg rfl hv).mono ?_;rintro e W' ⟨v,rfl,X',x,rfl,hg',he,hx,rfl,_⟩;obtain rfl:=V.raw_inv hx;have hb:=xZe he;refine⟨_,rfl,?_⟩;have hW':=hW;obtain⟨p,q,hA,hV,rfl,hz,_⟩:=hW;rw[hvars] at hV;have hgs:gs=[]/\q=[]:=by
  cases gs with
  | nil=>exact⟨rfl,hV⟩
  | cons _ _=>exact absurd hV (by simp[DataW.TrodVars])
 obtain⟨rfl,rfl⟩:=hgs;have hlt:∀x∈p,x.block<W.heap.size:=λx hx=>by simpa using hW'.lt x (by simpa using hx)
 have hargs:∀sp:Nat->Bool,(∀x∈p,sp x.block=true)->DataW.TrodAll enc prog X'.w 0 sp true f.params.toList args.toList (s.fn H (ds++[])).args p:=λsp hsp=>by
  rw[hfn];exact yUw hb sp hread hA hlt hsp
 have hr:∀(b:Nat) (sp:Nat->Bool) (hd:Bool),DataW.TrodAll enc prog X'.w b sp hd f.resultTypes.toList ((Value.bool true).resultList f.resultTypes.size) (s.fn H (ds++[])).results []:=λ_ _ _=>by
  rw[hfn,hres];exact trodAll_cons_mk (shut_bool xU1 _) trodAll_mk0
 have hvs:∀sp:Nat->Bool,DataW.TrodVars enc prog X'.w sp s.vars (s.fn H (ds++[])).vars []:=λ_=>by
  rw[hvars,hfn];rfl
 have hsz:∀x∈p,(λb=>decide (b<W.heap.size)) x.block=true:=λx hx=>by simpa using hlt x hx
 refine⟨ds,[],p++[],[],p,[],hW',hr _ _ _,hargs _ hsz,hvs _,World.keptBut_mono (λx hx=>⟨hx,Or.inr (by simpa using hx)⟩) (hb.frame (·∈p++[])),λ_=>⟨ok_one hres rfl (okWide_bool_mk xU1 _),_,_,([]++p)++[],
  ⟨[]++p,[],trodAll_append (hargs _ (λ_ _=>rfl)) (hr _ _ _),hvs _,rfl,?_,λh=>by cases h⟩,λx hx _=>by simpa using hx⟩⟩
 intro b off hp;rw[hb.frozen (p:=⟨b,off,none⟩) (hlt (.cell b off) (by simpa using hp))];exact hz b off (by simpa using hp)
theorem wJc {W:World}{base:Nat}{v:Value}{t:Tr}{x:IV}(h:Value.okWide prog W .any base 32 v)(hx:VL 0 (L0 W) W v.cells.toList x.cells)(hf:IsTr t x):V 0 (L0 W) W v x:=by
 obtain⟨cs,rfl,_⟩:=WideShapes.okWide_struct vZb h;obtain⟨_,_,_,_,_,_,_,_,_,_,_,_,_,_,_,_,_,_,rfl⟩:=yKc hf;cases cs;exact hx.agg
theorem wVh {α:Prop}{W:World}{base:Nat}{v:Value}(h:Value.okWide prog W .any base 5 v)(_:α):∃b:Nat,v=.int .u8 b/\V 0 (L0 W) W (.int .u8 b) (.raw (.int .u8 b))/\b<256:=by
 simp only[Value.okWide,uU8,Cell.okWide] at h;cases v<;>simp_all [Cell.ok];rename_i k n;obtain⟨rfl,h1,h2⟩:=h;have e1:IntKind.u8.min=0:=by decide
 have e2:IntKind.u8.max=255:=by decide
 rw[e1] at h1;rw[e2] at h2;refine⟨n.toNat,?_,?_,?_⟩
 ·omega
 ·exact .raw _ trivial
 ·omega
def tab32:List Int:=[0,1,28,2,29,14,24,3,30,22,20,15,25,17,4,8,31,27,13,23,21,19,16,7,26,12,18,6,11,5,10,9]
def tab64:List Int:=[0,1,56,2,57,49,28,3,61,58,42,50,38,29,17,4,62,47,59,36,45,43,51,22,53,39,33,30,24,18,12,5,63,55,48,27,60,41,37,16,46,35,44,21,52,32,23,11,54,26,40,15,34,20,31,10,25,14,19,9,13,8,7,6]
def lay (cs:List Value):Obj->Obj
 | .cells _ t frozen=>.cells cs.toArray t frozen
 | o=>o
noncomputable def zJt (os:Os):World :=
 { World.holding prog os ⟨#[],#[],[]⟩ with heap:=((((World.holding prog os ⟨#[],#[],[]⟩).heap.modify 0 (lay ((List.range 17).flatMap rowV))).modify 2 (lay (Lib.pow10Tab.map λz=>.int .u64 z))).modify 3 (lay (tab32.map λz=>.int .u8 z))).modify 4 (lay (tab64.map λz=>.int .u8 z)) }
theorem wKp (os:Os)(args:Array Value):laidMet prog Rows.sequentTellsUptoRow.laid ((zJt os).forCall (λ_ _=>0) ⟨#[],args,[]⟩).memory :=
 laidMet_of_run' 8 (by kernel_rfl) (by kernel_rfl)
