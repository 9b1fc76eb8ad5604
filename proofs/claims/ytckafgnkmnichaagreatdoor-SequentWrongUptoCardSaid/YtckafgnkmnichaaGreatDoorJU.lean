/- Putting, renaming, normal forms: plain data, no program in sight.
   Putting: sizes and rightness of what comes out. Plain data, no program in sight.
   Equality up to bound names, normal forms. Plain data, no program in sight. -/
import Derived.Test.YtckafgnkmnichaaGreatDoorJT
import Derived.Lib.ItoaNum
set_option linter.all false
namespace Go.Proofs.Tryz
open Go Go.Iv

def xName (k:Nat):ByteArray:=⟨(120 :: Lib.decDigits k).toArray⟩
def valD (l:List UInt8):Nat:=l.foldl (fun a d => a * 10 + (d.toNat - 48)) 0
theorem valD_dec (u:Nat):valD (Lib.decDigits u) = u:=by
  induction u using Nat.strongRecOn with
  | _ u ih =>
    rw [Lib.decDigits]
    by_cases h:u < 10
    · rw [dif_pos h]
      simp only [valD,List.foldl_cons,List.foldl_nil,UInt8.toNat_ofNat']
      omega
    · rw [dif_neg h]
      have:=ih (u / 10) (by omega)
      simp only [valD,List.foldl_append,List.foldl_cons,List.foldl_nil,UInt8.toNat_ofNat'] at this ⊢
      rw [this]
      omega
theorem xName_inj {a b:Nat} (h:xName a = xName b):a = b:=by
  have h1:(120 :: Lib.decDigits a) = (120 :: Lib.decDigits b):=by
    have:=congrArg (fun x:ByteArray => x.data.toList) h
    simpa [xName] using this
  have h2:Lib.decDigits a = Lib.decDigits b:=by injection h1
  rw [← valD_dec a,h2,valD_dec b]
theorem nodup_le {α:Type} [DecidableEq α]:∀ (a b:List α),a.Nodup → (∀ x ∈ a,x ∈ b) → a.length ≤ b.length
  | [],b,_,_ => Nat.zero_le _
  | x :: a,b,hn,hs => by
    have hx:=hs x (List.mem_cons_self ..)
    have hn':=List.nodup_cons.1 hn
    have:=nodup_le a (b.erase x) hn'.2 (fun y hy => (List.mem_erase_of_ne (by rintro rfl; exact hn'.1 hy)).2 (hs y (List.mem_cons_of_mem _ hy)))
    rw [List.length_erase_of_mem hx] at this
    have hb:0 < b.length:=List.length_pos_of_mem hx
    simp only [List.length_cons]; omega
theorem fresh_ex (l:List ByteArray):∃ k,1 ≤ k ∧ k ≤ l.length + 1 ∧ xName k ∉ l:=by
  refine Classical.byContradiction fun hne => ?_
  have hall:∀ k,1 ≤ k → k ≤ l.length + 1 → xName k ∈ l:=fun k h1 h2 => Classical.byContradiction fun h => hne ⟨k,h1,h2,h⟩
  have:=nodup_le ((List.range' 1 (l.length + 1)).map xName) l (by
      unfold List.Nodup
      rw [List.pairwise_map]
      exact List.Pairwise.imp (fun h he => h (xName_inj he)) (List.nodup_range' (s:=1) (n:=l.length + 1))) (fun x hx => by
      obtain ⟨k,hk,rfl⟩:=List.mem_map.1 hx
      have:=List.mem_range'_1.1 hk
      exact hall k (by omega) (by omega))
  simp at this
  omega
noncomputable def leastK (l:List ByteArray):Nat:=Iv.least (fun k => 1 ≤ k ∧ xName k ∉ l)
theorem leastK_spec (l:List ByteArray):1 ≤ leastK l ∧ leastK l ≤ l.length + 1 ∧ xName (leastK l) ∉ l ∧ ∀ j,1 ≤ j → j < leastK l → xName j ∈ l:=by
  obtain ⟨k,h1,h2,h3⟩:=fresh_ex l
  have hs:=Iv.least_spec (p:=fun k => 1 ≤ k ∧ xName k ∉ l) ⟨k,h1,h3⟩
  refine ⟨hs.1.1,Nat.le_trans (hs.2 k ⟨h1,h3⟩) h2,hs.1.2,fun j hj hlt => Classical.byContradiction fun hn => ?_⟩
  have:=hs.2 j ⟨hj,hn⟩
  unfold leastK at hlt
  omega
theorem leastK_eq {l:List ByteArray} {k:Nat} (h1:1 ≤ k) (h2:xName k ∉ l) (h3:∀ j,1 ≤ j → j < k → xName j ∈ l):leastK l = k:=by
  obtain ⟨a1,a2,a3,a4⟩:=leastK_spec l
  rcases Nat.lt_trichotomy (leastK l) k with h | h | h
  · exact absurd (h3 _ a1 h) a3
  · exact h
  · exact absurd (a4 k h1 h) h2
theorem leastK_congr {l m:List ByteArray} (h:∀ x,x ∈ l ↔ x ∈ m):leastK l = leastK m:=by
  obtain ⟨a1,a2,a3,a4⟩:=leastK_spec m
  exact leastK_eq a1 (fun hx => a3 ((h _).1 hx)) (fun j hj hlt => (h _).2 (a4 j hj hlt))
noncomputable def leastN (l:List ByteArray):ByteArray:=xName (leastK l)
theorem leastN_not (l:List ByteArray):leastN l ∉ l:=(leastK_spec l).2.2.1
theorem leastN_congr {l m:List ByteArray} (h:∀ x,x ∈ l ↔ x ∈ m):leastN l = leastN m:=by unfold leastN; rw [leastK_congr h]

def memB (l:List ByteArray) (n:ByteArray):Bool:=l.any fun x => decide (x = n)
@[simp] theorem memB_iff {l:List ByteArray} {n:ByteArray}:memB l n = true ↔ n ∈ l:=by
  simp [memB]
@[simp] theorem memB_not {l:List ByteArray} {n:ByteArray}:memB l n = false ↔ n ∉ l:=by
  rw [← Bool.not_eq_true,memB_iff]

mutual
def frF:Fm → List ByteArray
  | .mk op m us sub => namesTms us ++ (if isQ op then (frFs sub).filter (fun n => !decide (n = m)) else frFs sub)
def frFs:List Fm → List ByteArray
  | [] => []
  | a :: l => frF a ++ frFs l
end
theorem freeL_incB (b:ByteArray → Nat) (m:ByteArray) (l:List ByteArray):freeL (incB b m) l = freeL b (l.filter (fun n => !decide (n = m))):=by
  unfold freeL
  rw [List.filter_filter]
  refine List.filter_congr fun n _ => ?_
  unfold incB
  by_cases h:n = m <;> simp [h]
mutual
theorem freeFm_eq:∀ (f:Fm) (b:ByteArray → Nat),freeFm b f = freeL b (frF f)
  | .mk op m us sub,b => by
    simp only [freeFm,frF,freeL_append]
    rw [freeFms_eq sub]
    split
    · rw [freeL_incB]
    · rfl
theorem freeFms_eq:∀ (l:List Fm) (b:ByteArray → Nat),freeFms b l = freeL b (frFs l)
  | [],b => by simp [freeFms,frFs,freeL]
  | a :: l,b => by simp only [freeFms,frFs,freeL_append,freeFm_eq a b,freeFms_eq l b]
end
theorem freeB_eq (f:Fm):freeB f = frF f:=by
  unfold freeB
  rw [freeFm_eq]
  unfold freeL
  rw [List.filter_eq_self]
  intro a _; rfl

abbrev Sb:=List (ByteArray × Tm)
def lookS (l:Sb) (n:ByteArray):Option Tm:=(l.find? fun p => decide (p.1 = n)).map (·.2)
def cntS (ps:Sb) (m:ByteArray) (fr:List ByteArray):Sb:=ps.filter fun p => memB fr p.1 && !decide (p.1 = m)
def clashS (ps:Sb) (m:ByteArray) (fr:List ByteArray):Bool:=(cntS ps m fr).any fun p => memB (namesTm p.2) m
def takenS (ps:Sb) (m:ByteArray) (fr:List ByteArray):List ByteArray:=fr ++ (cntS ps m fr).flatMap fun p => namesTm p.2
noncomputable def underS (ps:Sb) (m:ByteArray) (fr:List ByteArray):ByteArray × Sb :=
  if clashS ps m fr then (leastN (takenS ps m fr),cntS ps m fr ++ [(m,.mk true (leastN (takenS ps m fr)) [])]) else (m,cntS ps m fr)
mutual
noncomputable def formS:Sb → Fm → Fm
  | ps,.mk op m us sub => .mk op (if isQ op then (underS ps m (frFs sub)).1 else m) (mapTms (lookS ps) us) (formSs (if isQ op then (underS ps m (frFs sub)).2 else ps) sub)
noncomputable def formSs:Sb → List Fm → List Fm
  | _,[] => []
  | ps,a :: l => formS ps a :: formSs ps l
end
theorem formSs_append (ps:Sb):∀ l m:List Fm,formSs ps (l ++ m) = formSs ps l ++ formSs ps m
  | [],m => by simp [formSs]
  | a :: l,m => by simp only [List.cons_append,formSs,formSs_append ps l m]
theorem formSs_length (ps:Sb):∀ l:List Fm,(formSs ps l).length = l.length
  | [] => rfl
  | a :: l => by simp only [formSs,List.length_cons,formSs_length ps l]

inductive NlT where
  | bv (i:Nat)
  | fv (n:ByteArray)
  | ap (n:ByteArray) (l:List NlT)
inductive NlF where
  | mk (op:Nat) (n:ByteArray) (us:List NlT) (sub:List NlF)
def lookE:List ByteArray → ByteArray → Option Nat
  | [],_ => none
  | m :: e,n => if n = m then some e.length else lookE e n
def lookV (env:List ByteArray) (n:ByteArray):NlT:=match lookE env n with | some i => .bv i | none => .fv n
mutual
def db (env:List ByteArray):Tm → NlT
  | .mk true n _ => lookV env n
  | .mk false n l => .ap n (dbs env l)
def dbs (env:List ByteArray):List Tm → List NlT
  | [] => []
  | a :: l => db env a :: dbs env l
end
mutual
def dbF:List ByteArray → Fm → NlF
  | env,.mk op m us sub => .mk op (if isQ op then ⟨#[]⟩ else m) (dbs env us) (dbFs (if isQ op then m :: env else env) sub)
def dbFs:List ByteArray → List Fm → List NlF
  | _,[] => []
  | env,a :: l => dbF env a :: dbFs env l
end
mutual
def dsub (σ:ByteArray → NlT):NlT → NlT
  | .bv i => .bv i
  | .fv n => σ n
  | .ap n l => .ap n (dsubs σ l)
def dsubs (σ:ByteArray → NlT):List NlT → List NlT
  | [] => []
  | a :: l => dsub σ a :: dsubs σ l
end
mutual
def dsubF (σ:ByteArray → NlT):NlF → NlF
  | .mk op n us sub => .mk op n (dsubs σ us) (dsubFs σ sub)
def dsubFs (σ:ByteArray → NlT):List NlF → List NlF
  | [] => []
  | a :: l => dsubF σ a :: dsubFs σ l
end
theorem lookE_lt:∀ {e:List ByteArray} {n:ByteArray} {i:Nat},lookE e n = some i → i < e.length
  | [],n,i,h => by cases h
  | m :: e,n,i,h => by
    simp only [lookE] at h
    split at h
    · cases h; simp
    · have:=lookE_lt h; simp only [List.length_cons]; omega
theorem lookE_none:∀ {e:List ByteArray} {n:ByteArray},lookE e n = none ↔ n ∉ e
  | [],n => by simp [lookE]
  | m :: e,n => by
    simp only [lookE,List.mem_cons,not_or]
    by_cases h:n = m
    · simp [h]
    · simp [h,lookE_none (e:=e)]
theorem lookV_cons {e:List ByteArray} {m n:ByteArray}:lookV (m :: e) n = if n = m then .bv e.length else lookV e n:=by
  unfold lookV
  simp only [lookE]
  by_cases h:n = m <;> simp [h]

theorem ok_var {n:ByteArray} {l:List Tm} (h:(Tm.mk true n l).ok = true):l = []:=by
  simp only [Tm.ok,Bool.and_eq_true,List.isEmpty_iff] at h; exact h.1
theorem ok_fun {n:ByteArray} {l:List Tm} (h:(Tm.mk false n l).ok = true):okTms l = true:=by
  simp only [Tm.ok,Bool.and_eq_true] at h; exact h.2
theorem okTms_cons {a:Tm} {l:List Tm} (h:okTms (a :: l) = true):a.ok = true ∧ okTms l = true:=by
  simpa only [okTms,Bool.and_eq_true] using h
theorem okFms_cons {a:Fm} {l:List Fm} (h:okFms (a :: l) = true):a.ok = true ∧ okFms l = true:=by
  simpa only [okFms,Bool.and_eq_true] using h
theorem ok_form {op:Nat} {m:ByteArray} {us:List Tm} {sub:List Fm} (h:(Fm.mk op m us sub).ok = true):okTms us = true ∧ okFms sub = true ∧ okRow op m us.length sub.length = true:=by
  simp only [Fm.ok,Bool.and_eq_true] at h; exact ⟨h.1.2,h.2,h.1.1⟩
theorem ok_quant {op:Nat} {m:ByteArray} {us:List Tm} {sub:List Fm} (hq:isQ op = true) (h:(Fm.mk op m us sub).ok = true):us = [] ∧ nmVar m = true ∧ ∃ g,sub = [g] ∧ g.ok = true:=by
  obtain ⟨h1,h2,h3⟩:=ok_form h
  have ho:op = 8 ∨ op = 9:=by simpa [isQ] using hq
  have h4:(nmVar m && decide (us.length = 0) && decide (sub.length = 1)) = true:=by rcases ho with rfl | rfl <;> exact h3
  simp only [Bool.and_eq_true,decide_eq_true_eq] at h4
  refine ⟨List.eq_nil_of_length_eq_zero h4.1.2,h4.1.1,?_⟩
  match sub,h4.2,h2 with
  | [g],_,h2 => exact ⟨g,rfl,(okFms_cons h2).1⟩
mutual
theorem db_cons (env:List ByteArray) (m:ByteArray):∀ t:Tm,m ∉ namesTm t → db (m :: env) t = db env t
  | .mk true n l,h => by
    simp only [namesTm,List.mem_cons,not_or] at h
    simp only [db,lookV_cons]
    rw [if_neg (fun he => h.1 he.symm)]
  | .mk false n l,h => by
    simp only [db,dbs_cons env m l (by simpa [namesTm] using h)]
theorem dbs_cons (env:List ByteArray) (m:ByteArray):∀ l:List Tm,m ∉ namesTms l → dbs (m :: env) l = dbs env l
  | [],_ => rfl
  | a :: l,h => by
    simp only [namesTms,List.mem_append,not_or] at h
    simp only [dbs,db_cons env m a h.1,dbs_cons env m l h.2]
end
mutual
theorem db_map (env env':List ByteArray) (σ:ByteArray → NlT) (F:ByteArray → Option Tm):∀ t:Tm,t.ok = true → (∀ n ∈ namesTm t,db env' ((F n).getD (.mk true n [])) = dsub σ (lookV env n)) → db env' (mapTm F t) = dsub σ (db env t)
  | .mk true n l,h,hn => by
    obtain rfl:=ok_var h
    have h1:=hn n (by simp [namesTm])
    simp only [mapTm,db]
    rw [← h1]
    cases F n with
    | none => rfl
    | some u => rfl
  | .mk false n l,h,hn => by
    simp only [mapTm,db,dsub,dbs_map env env' σ F l (ok_fun h) (fun n hm => hn n (by simpa [namesTm] using hm))]
theorem dbs_map (env env':List ByteArray) (σ:ByteArray → NlT) (F:ByteArray → Option Tm):∀ l:List Tm,okTms l = true → (∀ n ∈ namesTms l,db env' ((F n).getD (.mk true n [])) = dsub σ (lookV env n)) → dbs env' (mapTms F l) = dsubs σ (dbs env l)
  | [],_,_ => rfl
  | a :: l,h,hn => by
    simp only [mapTms,dbs,dsubs,db_map env env' σ F a (okTms_cons h).1 (fun n hm => hn n (by simp [namesTms,hm])),dbs_map env env' σ F l (okTms_cons h).2 (fun n hm => hn n (by simp [namesTms,hm]))]
end
theorem lookS_filter_pos {ps:Sb} {q:ByteArray × Tm → Bool} {n:ByteArray} (h:∀ u,q (n,u) = true):lookS (ps.filter q) n = lookS ps n:=by
  unfold lookS
  rw [List.find?_filter]
  congr 2
  funext p
  by_cases hp:p.1 = n
  · obtain ⟨a,u⟩:=p; simp only at hp; subst hp; simp [h u]
  · simp [hp]
theorem lookS_filter_neg {ps:Sb} {q:ByteArray × Tm → Bool} {n:ByteArray} (h:∀ u,q (n,u) = false):lookS (ps.filter q) n = none:=by
  unfold lookS
  rw [List.find?_filter,Option.map_eq_none_iff,List.find?_eq_none]
  intro p _
  by_cases hp:p.1 = n
  · obtain ⟨a,u⟩:=p; simp only at hp; subst hp; simp [h u]
  · simp [hp]
theorem lookS_append (ps qs:Sb) (n:ByteArray):lookS (ps ++ qs) n = (lookS ps n).or (lookS qs n):=by
  unfold lookS
  rw [List.find?_append]
  cases ps.find? _ <;> rfl
theorem lookS_cnt {ps:Sb} {m n:ByteArray} {fr:List ByteArray} (hn:n ∈ fr) (hm:n ≠ m):lookS (cntS ps m fr) n = lookS ps n :=
  lookS_filter_pos fun u => by simp [hn,hm]
theorem lookS_cnt_self {ps:Sb} {m:ByteArray} {fr:List ByteArray}:lookS (cntS ps m fr) m = none :=
  lookS_filter_neg fun u => by simp
theorem lookS_mem {ps:Sb} {n:ByteArray} {u:Tm} (h:lookS ps n = some u):(n,u) ∈ ps:=by
  unfold lookS at h
  rw [Option.map_eq_some_iff] at h
  obtain ⟨⟨a,v⟩,h1,h2⟩:=h
  have h3:=List.find?_some h1
  simp only [decide_eq_true_eq] at h3
  simp only at h2
  subst h3 h2
  exact List.mem_of_find?_eq_some h1
theorem under_db {ps:Sb} {m:ByteArray} {fr:List ByteArray} {env env':List ByteArray} {σ:ByteArray → NlT} (hl:env.length = env'.length)
    (h:∀ n ∈ fr,n ≠ m → db env' ((lookS ps n).getD (.mk true n [])) = dsub σ (lookV env n)) {n:ByteArray} (hn:n ∈ fr) :
    db ((underS ps m fr).1 :: env') ((lookS (underS ps m fr).2 n).getD (.mk true n [])) = dsub σ (lookV (m :: env) n):=by
  unfold underS
  by_cases hc:clashS ps m fr = true
  · rw [if_pos hc]
    have hf:=leastN_not (takenS ps m fr)
    simp only [takenS,List.mem_append,not_or] at hf
    have hff:=hf.1
    have hft:=hf.2
    generalize hm':leastN (takenS ps m fr) = m' at hf hff hft
    have hm2:leastN (fr ++ List.flatMap (fun p => namesTm p.2) (cntS ps m fr)) = m':=hm'
    simp only [hm2] at hff hft
    simp only
    rw [lookS_append]
    by_cases hnm:n = m
    · subst hnm
      rw [lookS_cnt_self,lookV_cons,if_pos rfl]
      simp [lookS,db,lookV_cons,dsub,hl]
    · rw [lookS_cnt hn hnm,lookV_cons,if_neg hnm,← h n hn hnm]
      cases hs:lookS ps n with
      | some u =>
        simp only [Option.some_or,Option.getD_some]
        refine db_cons _ _ _ fun hmu => hft (List.mem_flatMap.2 ⟨(n,u),?_,hmu⟩)
        exact lookS_mem (by rw [lookS_cnt hn hnm]; exact hs)
      | none =>
        have:lookS [(m,Tm.mk true m' [])] n = none:=by simp [lookS,Ne.symm hnm]
        rw [this]
        simp only [Option.none_or,Option.getD_none]
        refine db_cons _ _ _ ?_
        simp only [namesTm,namesTms,List.mem_singleton]
        rintro rfl
        exact hff hn
  · rw [if_neg hc]
    simp only
    by_cases hnm:n = m
    · subst hnm
      rw [lookS_cnt_self,lookV_cons,if_pos rfl]
      simp [db,lookV_cons,dsub,hl]
    · rw [lookS_cnt hn hnm,lookV_cons,if_neg hnm,← h n hn hnm]
      cases hs:lookS ps n with
      | some u =>
        simp only [Option.getD_some]
        refine db_cons _ _ _ fun hmu => hc ?_
        unfold clashS
        rw [List.any_eq_true]
        exact ⟨(n,u),lookS_mem (by rw [lookS_cnt hn hnm]; exact hs),by simpa using hmu⟩
      | none =>
        simp only [Option.getD_none]
        refine db_cons _ _ _ ?_
        simp only [namesTm,namesTms,List.mem_singleton]
        exact fun he => hnm he.symm
mutual
theorem dbF_form:∀ (f:Fm) (ps:Sb) (env env':List ByteArray) (σ:ByteArray → NlT),env.length = env'.length → f.ok = true → (∀ n ∈ frF f,db env' ((lookS ps n).getD (.mk true n [])) = dsub σ (lookV env n)) →
    dbF env' (formS ps f) = dsubF σ (dbF env f)
  | .mk op m us sub,ps,env,env',σ,hl,hok,h => by
    obtain ⟨h1,h2,_⟩:=ok_form hok
    simp only [frF] at h
    simp only [formS,dbF,dsubF]
    rw [dbs_map env env' σ (lookS ps) us h1 (fun n hn => h n (by simp [hn]))]
    by_cases hq:isQ op = true
    · simp only [hq,if_true] at h ⊢
      rw [dbFs_form sub _ (m :: env) ((underS ps m (frFs sub)).1 :: env') σ (by simp [hl]) h2 (fun n hn => under_db hl (fun n' h' hm' => h n' (by simp [h',hm'])) hn)]
    · simp only [hq,Bool.false_eq_true,if_false] at h ⊢
      rw [dbFs_form sub ps env env' σ hl h2 (fun n hn => h n (by simp [hn]))]
theorem dbFs_form:∀ (l:List Fm) (ps:Sb) (env env':List ByteArray) (σ:ByteArray → NlT),env.length = env'.length → okFms l = true → (∀ n ∈ frFs l,db env' ((lookS ps n).getD (.mk true n [])) = dsub σ (lookV env n)) →
    dbFs env' (formSs ps l) = dsubFs σ (dbFs env l)
  | [],_,_,_,_,_,_,_ => rfl
  | a :: l,ps,env,env',σ,hl,hok,h => by
    simp only [frFs] at h
    simp only [formSs,dbFs,dsubFs,dbF_form a ps env env' σ hl (okFms_cons hok).1 (fun n hn => h n (by simp [hn])),dbFs_form l ps env env' σ hl (okFms_cons hok).2 (fun n hn => h n (by simp [hn]))]
end
def sgm (ps:Sb) (n:ByteArray):NlT:=db [] ((lookS ps n).getD (.mk true n []))
theorem dbF_form0 (f:Fm) (ps:Sb) (h:f.ok = true):dbF [] (formS ps f) = dsubF (sgm ps) (dbF [] f):=dbF_form f ps [] [] (sgm ps) rfl h (fun n _ => rfl)
end Go.Proofs.Tryz

namespace Go.Proofs.Tryz
open Go Go.Iv

theorem look_under {ps:Sb} {m:ByteArray} {fr:List ByteArray} {n:ByteArray} (hn:n ∈ fr) :
    lookS (underS ps m fr).2 n = if n = m then (if clashS ps m fr then some (.mk true (underS ps m fr).1 []) else none) else lookS ps n:=by
  unfold underS
  by_cases hnm:n = m
  · subst hnm
    rw [if_pos rfl]
    split
    · simp only [lookS_append,lookS_cnt_self]
      simp [lookS]
    · exact lookS_cnt_self
  · rw [if_neg hnm]
    split
    · simp only [lookS_append,lookS_cnt hn hnm]
      have:lookS [(m,Tm.mk true (leastN (takenS ps m fr)) [])] n = none:=by simp [lookS,Ne.symm hnm]
      rw [this]; simp
    · exact lookS_cnt hn hnm

section
variable (ps:List Pc)
def HSz (b:ByteArray → Nat) (F:ByteArray → Option Tm) (n:ByteArray):Prop :=
  (if b n = 0 then lastP ps n (1,1) else (1,1)) = (((F n).getD (.mk true n [])).size,((F n).getD (.mk true n [])).deep)
mutual
theorem psz_map (b:ByteArray → Nat) (F:ByteArray → Option Tm):∀ t:Tm,t.ok = true → (∀ n ∈ namesTm t,HSz ps b F n) → psz ps b t = ((mapTm F t).size,(mapTm F t).deep)
  | .mk true n l,h,hn => by
    obtain rfl:=ok_var h
    have h1:=hn n (by simp [namesTm])
    unfold HSz at h1
    simp only [psz,pszs,true_and,mapTm]
    rw [h1]
    cases F n with
    | none => rfl
    | some u => rfl
  | .mk false n l,h,hn => by
    have:=pszs_map b F l (ok_fun h) (fun n hm => hn n (by simpa [namesTm] using hm))
    simp only [psz,Bool.false_eq_true,false_and,if_false,mapTm,Tm.size,Tm.deep,this]
theorem pszs_map (b:ByteArray → Nat) (F:ByteArray → Option Tm):∀ l:List Tm,okTms l = true → (∀ n ∈ namesTms l,HSz ps b F n) → pszs ps b l = (sizeTms (mapTms F l),deepTms (mapTms F l))
  | [],_,_ => rfl
  | a :: l,h,hn => by
    simp only [pszs,mapTms,sizeTms,deepTms,psz_map b F a (okTms_cons h).1 (fun n hm => hn n (by simp [namesTms,hm])),pszs_map b F l (okTms_cons h).2 (fun n hm => hn n (by simp [namesTms,hm]))]
end
theorem HSz_under {b:ByteArray → Nat} {qs:Sb} {m:ByteArray} {fr:List ByteArray} {n:ByteArray} (hn:n ∈ fr) (h:n ≠ m → HSz ps b (lookS qs) n):HSz ps (incB b m) (lookS (underS qs m fr).2) n:=by
  unfold HSz at h ⊢
  rw [look_under hn]
  by_cases hnm:n = m
  · subst hnm
    simp only [incB,if_true]
    rw [if_neg (by omega)]
    split <;> rfl
  · simp only [incB,if_neg hnm]
    exact h hnm
mutual
theorem fsz_form:∀ (f:Fm) (qs:Sb) (b:ByteArray → Nat),f.ok = true → (∀ n ∈ frF f,HSz ps b (lookS qs) n) → fsz ps b f = ((formS qs f).size,(formS qs f).deep)
  | .mk op m us sub,qs,b,hok,h => by
    obtain ⟨h1,h2,_⟩:=ok_form hok
    simp only [frF] at h
    simp only [fsz,formS,Fm.size,Fm.deep,pszs_map ps b (lookS qs) us h1 (fun n hn => h n (by simp [hn]))]
    by_cases hq:isQ op = true
    · simp only [hq,if_true] at h ⊢
      rw [fszs_form sub _ _ h2 (fun n hn => HSz_under ps hn (fun hm => h n (by simp [hn,hm])))]
    · simp only [hq,Bool.false_eq_true,if_false] at h ⊢
      rw [fszs_form sub qs b h2 (fun n hn => h n (by simp [hn]))]
theorem fszs_form:∀ (l:List Fm) (qs:Sb) (b:ByteArray → Nat),okFms l = true → (∀ n ∈ frFs l,HSz ps b (lookS qs) n) → fszs ps b l = (sizeFms (formSs qs l),deepFms (formSs qs l))
  | [],_,_,_,_ => rfl
  | a :: l,qs,b,hok,h => by
    simp only [frFs] at h
    simp only [fszs,formSs,sizeFms,deepFms,fsz_form a qs b (okFms_cons hok).1 (fun n hn => h n (by simp [hn])),fszs_form l qs b (okFms_cons hok).2 (fun n hn => h n (by simp [hn]))]
end
end
def toS (ps:List Pc):Sb:=ps.map fun p => (p.nm,p.tm)
theorem putF_toS (ps:List Pc):putF ps = lookS (toS ps):=by
  funext n
  unfold putF lookS toS
  rw [List.find?_map]
  simp only [Option.map_map]
  rfl
theorem lastP_look:∀ (ps:List Pc) (z:Nat × Nat) (n:ByteArray),(ps.map Pc.nm).Nodup → lastP ps n z = match lookS (toS ps) n with | some u => (u.size,u.deep) | none => z
  | [],z,n,_ => rfl
  | p :: ps,z,n,h => by
    simp only [List.map_cons,List.nodup_cons] at h
    have ih:=lastP_look ps (if p.nm = n then (p.tm.size,p.tm.deep) else z) n h.2
    have h0:lastP (p :: ps) n z = lastP ps n (if p.nm = n then (p.tm.size,p.tm.deep) else z):=rfl
    rw [h0,ih]
    have hc:lookS (toS (p :: ps)) n = if p.nm = n then some p.tm else lookS (toS ps) n:=by
      unfold lookS toS
      rw [List.map_cons,List.find?_cons]
      by_cases hp:p.nm = n <;> simp [hp]
    rw [hc]
    by_cases hp:p.nm = n
    · rw [if_pos hp,if_pos hp]
      have:lookS (toS ps) n = none:=by
        cases hl:lookS (toS ps) n with
        | none => rfl
        | some u =>
          have:=lookS_mem hl
          unfold toS at this
          obtain ⟨q,hq,he⟩:=List.mem_map.1 this
          cases he
          exact absurd (List.mem_map.2 ⟨q,hq,hp.symm⟩) h.1
      rw [this]
    · rw [if_neg hp,if_neg hp]
theorem HSz0 {ps:List Pc} (h:(ps.map Pc.nm).Nodup) (n:ByteArray):HSz ps (fun _ => 0) (lookS (toS ps)) n:=by
  unfold HSz
  rw [if_pos rfl,lastP_look ps _ n h]
  cases lookS (toS ps) n <;> rfl
theorem fsz_eq {ps:List Pc} (h:(ps.map Pc.nm).Nodup) {f:Fm} (hf:f.ok = true):fsz ps (fun _ => 0) f = ((formS (toS ps) f).size,(formS (toS ps) f).deep) :=
  fsz_form ps f (toS ps) _ hf (fun n _ => HSz0 h n)

theorem decDigits_digit (u:Nat):∀ c ∈ Lib.decDigits u,isDigit c = true:=by
  induction u using Nat.strongRecOn with
  | _ u ih =>
    rw [Lib.decDigits]
    by_cases h:u < 10
    · rw [dif_pos h]
      intro c hc
      rw [List.mem_singleton] at hc
      subst hc
      simp only [isDigit,inB,UInt8.toNat_ofNat',Bool.and_eq_true,decide_eq_true_eq]
      omega
    · rw [dif_neg h]
      intro c hc
      rcases List.mem_append.1 hc with hc | hc
      · exact ih _ (by omega) c hc
      · rw [List.mem_singleton] at hc
        subst hc
        simp only [isDigit,inB,UInt8.toNat_ofNat',Bool.and_eq_true,decide_eq_true_eq]
        omega
theorem nDigits_le:∀ (k u:Nat),u < 10 ^ (k + 1) → Lib.nDigits u ≤ k + 1
  | 0,u,h => by rw [Lib.nDigits_small (by simpa using h)]; omega
  | k + 1,u,h => by
    by_cases hu:u < 10
    · rw [Lib.nDigits_small hu]; omega
    · rw [Lib.nDigits_big hu]
      have:=nDigits_le k (u / 10) (by rw [Nat.pow_succ] at h; omega)
      omega
theorem xName_ok {k:Nat} (h:k < 1000000000000000):nmVar (xName k) = true:=by
  have hl:(Lib.decDigits k).length < 16:=by
    rw [Lib.decDigits_length]
    have:=nDigits_le 14 k (by simpa using h)
    omega
  have hd:∀ (w:ByteArray),(∀ c l,w.data.toList = c :: l → c ≠ 120) → w.data.toList ≠ [] → decide (xName k = w) = false:=fun w hw hne => by
    refine decide_eq_false fun he => ?_
    subst he
    exact hw 120 (Lib.decDigits k) (by simp [xName]) rfl
  have hr:isReserved (xName k) = false:=by
    unfold isReserved
    rw [hd wAll (by intro c l h; cases h; decide) (by decide),hd wSome (by intro c l h; cases h; decide) (by decide),hd wFalse (by intro c l h; cases h; decide) (by decide),
      hd wNext (by intro c l h; cases h; decide) (by decide),hd wAlways (by intro c l h; cases h; decide) (by decide),hd wUntil (by intro c l h; cases h; decide) (by decide)]
    rfl
  unfold nmVar nameOf
  rw [show (xName k).data.toList = 120 :: Lib.decDigits k by simp [xName]]
  simp only [hr,Bool.and_eq_true,decide_eq_true_eq,List.all_eq_true]
  exact ⟨⟨⟨hl,rfl⟩,by decide⟩,decDigits_digit k⟩
theorem leastN_ok {l:List ByteArray} (h:l.length < 900000000000000):nmVar (leastN l) = true:=xName_ok (by have:=(leastK_spec l).2.1; omega)

mutual
theorem mapTm_ok (F:ByteArray → Option Tm) (hF:∀ n u,F n = some u → u.ok = true):∀ t:Tm,t.ok = true → (mapTm F t).ok = true
  | .mk true n l,h => by
    obtain rfl:=ok_var h
    simp only [mapTm]
    cases hn:F n with
    | none => exact h
    | some u => exact hF n u hn
  | .mk false n l,h => by
    have:=mapTms_ok F hF l (ok_fun h)
    simp only [mapTm,Tm.ok,mapTms_length,this,Bool.and_true] at h ⊢
    simp only [Bool.and_eq_true] at h ⊢
    exact h.1
theorem mapTms_ok (F:ByteArray → Option Tm) (hF:∀ n u,F n = some u → u.ok = true):∀ l:List Tm,okTms l = true → okTms (mapTms F l) = true
  | [],_ => rfl
  | a :: l,h => by
    simp only [mapTms,okTms,mapTm_ok F hF a (okTms_cons h).1,mapTms_ok F hF l (okTms_cons h).2,Bool.and_self]
end
mutual
theorem namesTm_le:∀ t:Tm,(namesTm t).length ≤ t.size
  | .mk true n l => by have:=namesTms_le l; simp only [namesTm,List.length_cons,Tm.size]; omega
  | .mk false n l => by have:=namesTms_le l; simp only [namesTm,Tm.size]; omega
theorem namesTms_le:∀ l:List Tm,(namesTms l).length ≤ sizeTms l
  | [] => Nat.le_refl _
  | a :: l => by have:=namesTm_le a; have:=namesTms_le l; simp only [namesTms,List.length_append,sizeTms]; omega
end
mutual
theorem frF_le:∀ f:Fm,(frF f).length ≤ f.size
  | .mk op m us sub => by
    have h1:=namesTms_le us
    have h2:=frFs_le sub
    simp only [frF,List.length_append,Fm.size]
    split
    · have:=List.length_filter_le (fun n => !decide (n = m)) (frFs sub); omega
    · omega
theorem frFs_le:∀ l:List Fm,(frFs l).length ≤ sizeFms l
  | [] => Nat.le_refl _
  | a :: l => by have:=frF_le a; have:=frFs_le l; simp only [frFs,List.length_append,sizeFms]; omega
end
def wS:Sb → Nat
  | [] => 0
  | p :: l => p.2.size + wS l
theorem wS_append:∀ l m:Sb,wS (l ++ m) = wS l + wS m
  | [],m => by simp [wS]
  | a :: l,m => by simp only [List.cons_append,wS,wS_append l m]; omega
theorem wS_filter (q:ByteArray × Tm → Bool):∀ l:Sb,wS (l.filter q) ≤ wS l
  | [] => Nat.le_refl _
  | a :: l => by
    have:=wS_filter q l
    rw [List.filter_cons]
    split
    · simp only [wS]; omega
    · simp only [wS]; omega
theorem flat_le:∀ l:Sb,(l.flatMap fun p => namesTm p.2).length ≤ wS l
  | [] => Nat.le_refl _
  | a :: l => by
    have:=flat_le l
    have:=namesTm_le a.2
    simp only [List.flatMap_cons,List.length_append,wS]; omega
theorem taken_le (ps:Sb) (m:ByteArray) (fr:List ByteArray):(takenS ps m fr).length ≤ fr.length + wS ps:=by
  have:=flat_le (cntS ps m fr)
  have:=wS_filter (fun p => memB fr p.1 && !decide (p.1 = m)) ps
  unfold takenS cntS at *
  simp only [List.length_append]; omega
theorem wS_under (ps:Sb) (m:ByteArray) (fr:List ByteArray):wS (underS ps m fr).2 ≤ wS ps + 1:=by
  have:=wS_filter (fun p => memB fr p.1 && !decide (p.1 = m)) ps
  unfold underS cntS
  split
  · simp only [wS_append,wS,Tm.size,sizeTms]; omega
  · simp only; omega
def okS (ps:Sb):Prop:=∀ p ∈ ps,p.2.ok = true
theorem okS_under {ps:Sb} {m:ByteArray} {fr:List ByteArray} (h:okS ps) (hb:fr.length + wS ps < 900000000000000):okS (underS ps m fr).2:=by
  have hc:okS (cntS ps m fr):=fun p hp => h p ((List.mem_filter.1 hp).1)
  unfold underS
  split
  · intro p hp
    rcases List.mem_append.1 hp with hp | hp
    · exact hc p hp
    · rw [List.mem_singleton] at hp
      subst hp
      have:=leastN_ok (l:=takenS ps m fr) (by have:=taken_le ps m fr; omega)
      simp [Tm.ok,this]
  · exact hc
mutual
theorem formS_ok:∀ (f:Fm) (ps:Sb),f.ok = true → okS ps → f.size + wS ps < 900000000000000 → (formS ps f).ok = true
  | .mk op m us sub,ps,hok,hp,hb => by
    obtain ⟨h1,h2,h3⟩:=ok_form hok
    have hF:∀ n u,lookS ps n = some u → u.ok = true:=fun n u h => hp _ (lookS_mem h)
    have hfl:=frFs_le sub
    simp only [Fm.size] at hb
    simp only [formS,Fm.ok,mapTms_length,formSs_length,mapTms_ok _ hF us h1,Bool.and_true]
    by_cases hq:isQ op = true
    · simp only [hq,if_true]
      have hw:=wS_under ps m (frFs sub)
      rw [formSs_ok sub _ h2 (okS_under hp (by omega)) (by omega),Bool.and_true]
      have ho:op = 8 ∨ op = 9:=by simpa [isQ] using hq
      have hrow:∀ x,okRow op x us.length sub.length = (nmVar x && decide (us.length = 0) && decide (sub.length = 1)):=fun x => by rcases ho with rfl | rfl <;> rfl
      rw [hrow] at h3 ⊢
      simp only [Bool.and_eq_true] at h3 ⊢
      refine ⟨⟨?_,h3.1.2⟩,h3.2⟩
      unfold underS
      split
      · exact leastN_ok (by have:=taken_le ps m (frFs sub); omega)
      · exact h3.1.1
    · simp only [hq,Bool.false_eq_true,if_false]
      rw [formSs_ok sub ps h2 hp (by omega),Bool.and_true]
      exact h3
theorem formSs_ok:∀ (l:List Fm) (ps:Sb),okFms l = true → okS ps → sizeFms l + wS ps < 900000000000000 → okFms (formSs ps l) = true
  | [],_,_,_,_ => rfl
  | a :: l,ps,hok,hp,hb => by
    simp only [sizeFms] at hb
    simp only [formSs,okFms,formS_ok a ps (okFms_cons hok).1 hp (by omega),formSs_ok l ps (okFms_cons hok).2 hp (by omega),Bool.and_self]
end

end Go.Proofs.Tryz

namespace Go.Proofs.Tryz
open Go Go.Iv

noncomputable def alphaB (f g:Fm):Bool:=f.right && g.right && eqB (dbF [] f) (dbF [] g)
theorem lookV_ne {e:List ByteArray} {n:ByteArray} {l:Nat} (h:e.length ≤ l):lookV e n ≠ .bv l:=by
  unfold lookV
  split
  · rename_i i hi
    have:=lookE_lt hi
    intro he; injection he; omega
  · intro he; cases he
theorem lookV_pair {ls rs:List ByteArray} {l r n n':ByteArray} (hlen:ls.length = rs.length):lookV (l :: ls) n = lookV (r :: rs) n' ↔ (if n = l ∨ n' = r then n = l ∧ n' = r else lookV ls n = lookV rs n'):=by
  rw [lookV_cons,lookV_cons]
  by_cases h1:n = l
  · by_cases h2:n' = r
    · simp [h1,h2,hlen]
    · simp only [h1,h2,if_true,true_or,and_false,iff_false,if_false]
      exact fun h => lookV_ne (Nat.le_of_eq hlen.symm) h.symm
  · by_cases h2:n' = r
    · simp only [h1,h2,if_true,or_true,false_and,iff_false,if_false]
      exact fun h => lookV_ne (Nat.le_of_eq hlen) h
    · simp [h1,h2]
theorem lookV_fn {e:List ByteArray} {n m:ByteArray} {l:List NlT}:lookV e n ≠ .ap m l:=by
  unfold lookV; split <;> intro h <;> cases h
theorem lookV_nil {n:ByteArray}:lookV [] n = .fv n:=rfl
abbrev Ar:=List (ByteArray × ByteArray)
def renF (ar:Ar) (n:ByteArray):Option Tm:=(ar.find? fun p => decide (p.1 = n)).map fun p => .mk true p.2 []
mutual
noncomputable def normS (free:List ByteArray):Ar → Fm → Fm
  | ar,.mk op m us sub => .mk op (if isQ op then leastN (free ++ ar.map (·.2)) else m) (mapTms (renF ar) us) (normSs free (if isQ op then (m,leastN (free ++ ar.map (·.2))) :: ar else ar) sub)
noncomputable def normSs (free:List ByteArray):Ar → List Fm → List Fm
  | _,[] => []
  | ar,a :: l => normS free ar a :: normSs free ar l
end
theorem normSs_append (free:List ByteArray) (ar:Ar):∀ l m:List Fm,normSs free ar (l ++ m) = normSs free ar l ++ normSs free ar m
  | [],m => by simp [normSs]
  | a :: l,m => by simp only [List.cons_append,normSs,normSs_append free ar l m]
theorem normSs_length (free:List ByteArray) (ar:Ar):∀ l:List Fm,(normSs free ar l).length = l.length
  | [] => rfl
  | a :: l => by simp only [normSs,List.length_cons,normSs_length free ar l]
noncomputable def normF (f:Fm):Fm:=normS (frF f) [] f

theorem renF_one {ar:Ar} {n:ByteArray} {u:Tm} (h:renF ar n = some u):u.size = 1 ∧ u.deep = 1:=by
  unfold renF at h
  rw [Option.map_eq_some_iff] at h
  obtain ⟨p,_,rfl⟩:=h
  exact ⟨rfl,rfl⟩
theorem right_ok {f:Fm} (h:f.right = true):f.ok = true ∧ f.size ≤ 400 ∧ f.deep ≤ 40:=by
  simp only [Fm.right,Bool.and_eq_true,decide_eq_true_eq] at h; exact ⟨h.1.1,h.1.2,h.2⟩
theorem right_of {f:Fm} (h1:f.ok = true) (h2:f.size ≤ 400) (h3:f.deep ≤ 40):f.right = true:=by
  simp only [Fm.right,Bool.and_eq_true,decide_eq_true_eq]; exact ⟨⟨h1,h2⟩,h3⟩
end Go.Proofs.Tryz
