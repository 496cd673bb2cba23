/- A map of rows that is gone through: a row is taken out, and given back, while the iterator stays. -/
import Derived.Test.YthfocmakkeonoaaGreatDoorRVz
set_option linter.unusedVariables false
set_option linter.unusedSimpArgs false
set_option maxRecDepth 100000
set_option maxHeartbeats 16000000
namespace Go.Proofs.YthfocmakkeonoaaGreatDoor
open Go.RowKit
section
variable {P:Program} {ops:Array Oper} {C:Ctx} {E:Env} {σ:St} {a:Act} {w:World}
theorem Gm.retree (h:Gm C E σ a w) (k:Id) (x x':T) (F':List Nat) (hx:σ (.r k)=.tree x) (hb:∀ ys,x≠.box ys) (ha:∀ y,x'≠.av y) (hbx:∀ ys,x'≠.box ys) (hh:Hg E.m w [x'] [E.bv k] F') (hF:∀ b∈F',b∈E.bf k∨((C.D b∨C.w0.heap.size≤b)∧¬Qbm E σ b)) :
  ∃ E',Gm C E' (put σ (.r k) (.tree x')) a w∧Mo E σ E' (put σ (.r k) (.tree x'))∧E'.m=E.m∧E'.bv=E.bv∧(∀ t b,HoB E' (put σ (.r k) (.tree x')) t b→(t≠.r k∧HoB E σ t b)∨(t=.r k∧b∈F')):=by
 obtain ⟨σ',hσ'⟩:∃ s,s=put σ (.r k) (.tree x'):=⟨_,rfl⟩
 rw [←hσ']
 have qr:∀ k',σ' (.r k')=if k'=k then .tree x' else σ (.r k'):=fun k'=>by
  rw [hσ']
  by_cases e:k'=k
  ·subst e;simp [put]
  ·simp [put,e]
 have q:∀ l,(∀ k',l≠.r k')→σ' l=σ l:=fun l hl=>by rw [hσ'];exact Qag _ _ (hl k)
 have qs:∀ t,σ' (.s t)=σ (.s t):=fun t=>q _ (by simp)
 have qc:∀ o i,σ' (.c o i)=σ (.c o i):=fun o i=>q _ (by simp)
 have qo:∀ o,σ' (.o o)=σ (.o o):=fun o=>q _ (by simp)
 have qg:∀ o,σ' (.g o)=σ (.g o):=fun o=>q _ (by simp)
 have qk:∀ o,σ' (.k o)=σ (.k o):=fun o=>q _ (by simp)
 have qq:∀ o,σ' (.q o)=σ (.q o):=fun o=>q _ (by simp)
 have qh:∀ o,σ' (.h o)=σ (.h o):=fun o=>q _ (by simp)
 have ql:∀ o,σ' (.l o)=σ (.l o):=fun o=>q _ (by simp)
 clear q hσ'
 obtain ⟨E',hE'⟩:∃ E':Env,E' = { E with bf:=fun k'=>if k'=k then F' else E.bf k' }:=⟨_,rfl⟩
 have em:E'.m=E.m:=by rw [hE']
 have eloc:E'.loc=E.loc:=by rw [hE']
 have erv:E'.rv=E.rv:=by rw [hE']
 have erx:E'.rx=E.rx:=by rw [hE']
 have ebv:E'.bv=E.bv:=by rw [hE']
 have ebf:∀ k',E'.bf k'=if k'=k then F' else E.bf k':=by intro k';rw [hE']
 clear hE'
 have hmo:Mo E σ E' σ':=⟨by rw [em];exact Mem.le_refl _,fun o=>⟨Nat.le_of_eq (Qaz (qg o)).symm,fun _=>by rw [eloc]⟩,fun k'=>⟨Nat.le_of_eq (Qda (qq k')).symm,fun _ e sz T h2=>⟨T,by rw [←qk];exact h2,Nat.le_refl _,fun _=>by rw [erv]⟩⟩,fun k'=>⟨Nat.le_of_eq (QaL (qh k')).symm,fun _=>by rw [ebv]⟩⟩
 have ht:=h.tr
 have hnl:∀ t b,HoB E σ t b→t≠.r k→b∉F':=fun t b h1 h2 h3=>by
  rcases hF b h3 with h4 | h4
  ·exact h2 (h.ho_inj h1 (t':=.r k) ⟨x,hx,h4⟩)
  ·exact h4.2 ⟨t,h1⟩
 refine ⟨E',⟨h.sz,h.df,by rw [em];exact h.ms,h.fr,fun t y h1=>(h.sl t y (by rw [←qs];exact h1)).mo hmo,fun o i y n h1 h2 h3=>?_,fun o n h1=>?_,fun k' e s T h1=>?_,fun o o' n n' h1 h2 h3=>?_,fun k1 k2 e s T e' s' T' b h1 h2 h3 h4=>?_,fun o n k' e s T h1 h2=>?_,fun o b h1=>by rw [eloc];exact h.pi o b h1,by rw [em];exact h.ml,by rw [em];exact h.mx,
  ⟨fun k' y h1=>?_,fun k' y b h1 h2=>?_,fun k' ys h1=>?_,fun k1 k2 y1 y2 b h1 h2 h3 h4=>?_,fun o n k' y h1 h2 h3=>?_,fun k1 e s T k' y b h1 h2 h3 h4=>?_,fun k' y i z h1 h2=>?_,fun o k' g s h1=>?_,fun o o' k1 g s k2 g' s' h1 h2 h3=>?_⟩⟩,hmo,em,ebv,fun t b ht'=>?_⟩
 ·rw [qc] at h1
  rw [qo] at h2
  obtain ⟨u,hu,hr⟩:=h.ce o i y n h1 h2 h3
  exact ⟨u,by rw [eloc];exact hu,hr.mo hmo⟩
 ·rw [qo] at h1
  rw [eloc,em]
  exact h.ob o n h1
 ·rw [qk] at h1
  rw [erv,erx,em]
  exact h.ro k' e s T h1
 ·rw [qo] at h1 h2
  rw [eloc] at h3
  exact h.oo o o' n n' h1 h2 h3
 ·rw [qk] at h1 h2
  rw [erv] at h3 h4
  exact h.rr k1 k2 e s T e' s' T' b h1 h2 h3 h4
 ·rw [qo] at h1
  rw [qk] at h2
  rw [erv,eloc]
  exact h.or o n k' e s T h1 h2
 ·rw [qr] at h1
  rw [ebv,ebf,em]
  by_cases e:k'=k
  ·rw [if_pos e] at h1 ⊢
   cases h1
   rw [e]
   exact ⟨hh,ha⟩
  ·rw [if_neg e] at h1 ⊢
   exact ht.hg k' y h1
 ·rw [qr] at h1
  rw [ebf] at h2
  by_cases e:k'=k
  ·rw [if_pos e] at h2
   rcases hF b h2 with h3 | h3
   ·exact ht.dd k x b hx h3
   ·exact h3.1
  ·rw [if_neg e] at h1 h2
   exact ht.dd k' y b h1 h2
 ·rw [qr] at h1
  rw [ebv,eloc]
  by_cases e:k'=k
  ·rw [if_pos e] at h1
   cases h1
   exact absurd rfl (hbx ys)
  ·rw [if_neg e] at h1
   exact ht.bx k' ys h1
 ·rw [qr] at h1 h2
  rw [ebf] at h3 h4
  by_cases e1:k1=k
  ·by_cases e2:k2=k
   ·rw [e1,e2]
   ·rw [if_pos e1] at h3
    rw [if_neg e2] at h2 h4
    exact absurd h3 (hnl (.r k2) b ⟨y2,h2,h4⟩ (fun e=>e2 (by injection e)))
  ·rw [if_neg e1] at h1 h3
   by_cases e2:k2=k
   ·rw [if_pos e2] at h4
    exact absurd h4 (hnl (.r k1) b ⟨y1,h1,h3⟩ (fun e=>e1 (by injection e)))
   ·rw [if_neg e2] at h2 h4
    exact ht.tt k1 k2 y1 y2 b h1 h2 h3 h4
 ·rw [qo] at h1
  rw [qr] at h2
  rw [eloc,ebf] at h3
  by_cases e:k'=k
  ·rw [if_pos e] at h3
   exact hnl (.o o) _ ⟨n,h1,rfl⟩ (by simp) h3
  ·rw [if_neg e] at h2 h3
   exact ht.ot o n k' y h1 h2 h3
 ·rw [qk] at h1
  rw [qr] at h2
  rw [ebf] at h3
  rw [erv] at h4
  by_cases e1:k'=k
  ·rw [if_pos e1] at h3
   exact hnl (.k k1) b ⟨e,s,T,h1,h4⟩ (by simp) h3
  ·rw [if_neg e1] at h2 h3
   exact ht.tk k1 e s T k' y b h1 h2 h3 h4
 ·rw [qr] at h1
  rw [ql] at h2
  rw [ebv]
  by_cases e:k'=k
  ·rw [e] at h2 ⊢
   obtain ⟨u,hu,hr⟩:=ht.le k x i z hx h2
   exact ⟨u,hu,hr.mo hmo⟩
  ·rw [if_neg e] at h1
   obtain ⟨u,hu,hr⟩:=ht.le k' y i z h1 h2
   exact ⟨u,hu,hr.mo hmo⟩
 ·rw [qo] at h1
  rw [eloc]
  obtain ⟨mb,n,bs,l,h3,h4,h5,h6⟩:=ht.it o k' g s h1
  refine ⟨mb,n,bs,l,h3,h4,by rw [Qaz (qg k')];exact h5,fun he y hy=>?_⟩
  rw [Qaz (qg k')] at he
  by_cases e:k'=k
  ·have:=h6 he x (by rw [e];exact hx)
   unfold Qrh at this ⊢
   rw [ebv]
   exact this
  ·rw [qr,if_neg e] at hy
   have:=h6 he y hy
   unfold Qrh at this ⊢
   rw [ebv]
   exact this
 ·rw [qo] at h1 h2
  rw [eloc] at h3
  exact ht.ii o o' k1 g s k2 g' s' h1 h2 h3
 ·cases t with
  | o i=>
   obtain ⟨n,h1,h2⟩:=ht'
   rw [qo] at h1
   rw [eloc] at h2
   exact .inl ⟨by simp,n,h1,h2⟩
  | k i=>
   obtain ⟨e,s,T,h1,h2⟩:=ht'
   rw [qk] at h1
   rw [erv] at h2
   exact .inl ⟨by simp,e,s,T,h1,h2⟩
  | r i=>
   obtain ⟨y,h1,h2⟩:=ht'
   rw [qr] at h1
   rw [ebf] at h2
   by_cases e:i=k
   ·rw [if_pos e] at h2;rw [e];exact .inr ⟨rfl,h2⟩
   ·rw [if_neg e] at h1 h2;exact .inl ⟨fun e2=>e (by injection e2),y,h1,h2⟩
def QGf (σ:St) (id k2:Id) (x y:T) (j:Nat):List (Pl × X):=(.r id,.tree x)::(QaA σ k2 y++[(.l id,.lent j (.ref k2 (gh σ k2+1)))])
theorem QdG {α:Type} {l:List α} {j:Nat} {x:α} (h:l[j]? = some x):l.set j x=l:=by
 apply List.ext_getElem?
 intro i
 rw [List.getElem?_set]
 split
 ·rename_i e;subst e
  rw [h]
  have:=(List.getElem?_eq_some_iff.1 h).1
  simp [this]
 ·rfl
def QGg (id k2:Id) (x:T):List (Pl × X):=Qg6 k2++[(.r id,.tree x)]
end
attribute [go_sem] QGf QGg
section
variable {P:Program} {C:Ctx} {σ:St} {Q:Exit→St→Prop}
end
section
variable {P:Program} {ops:Array Oper} {C:Ctx} {σ:St} {K:St→List FP→Prop} {acc:List FP} {rest:List Oper} {md:Bool}
end
section
variable {P:Program} {C:Ctx} {σ:St} {Q:Exit→St→Prop}
def QCb (C:Ctx) (Q:Exit→St→Prop) (e:Exit) (σ:St):Prop:=∀ E a w,Gm C E σ a w→∃ E' σ',Q e σ'∧Gm C E' σ' a w
theorem QCc {c:Code} (h:AW P C c σ (QCb C Q)):AW P C c σ Q:=fun E a w hg=>
 Code.wp_mono (fun e a' w' hq=>by
  obtain ⟨E',σ',h1,h2⟩:=hq
  exact h1 E' a' w' h2) (h E a w hg)
end
section
variable {P:Program} {C:Ctx} {σ:St} {Q:Exit→St→Prop}
theorem QlK {c:Code} (k:Id) (kvs kvs0:List (Value × T)) (hp:kvs.Perm kvs0) (h:σ (.r k)=.tree (.mp kvs)∧AW P C c (Qaf σ [(.r k,.tree (.pm kvs0))]) Q):AW P C c σ Q:=by
 intro E a w hg
 obtain ⟨h1,h2⟩:=hg.tr.hg k _ h.1
 have hh:Hg E.m w [.pm kvs0] [E.bv k] (E.bf k):=by
  have:=Hg.pm hp h1 .nil (fun i _ hi=>by cases hi)
  simpa using this
 obtain ⟨E',g,_⟩:=hg.retree k _ (.pm kvs0) (E.bf k) h.1 (fun ys e=>by cases e) (fun y e=>by cases e) (fun ys e=>by cases e) hh (fun b hb=>.inl hb)
 exact h.2 E' a w g
theorem QmY {c:Code} (k:Id) (kvs:List (Value × T)) (h:σ (.r k)=.tree (.pm kvs)) (hk:∀ kvs',kvs'.Perm kvs→AW P C c (Qaf σ [(.r k,.tree (.mp kvs'))]) Q):AW P C c σ Q:=by
 intro E a w hg
 obtain ⟨h1,h2⟩:=hg.tr.hg k _ h
 obtain ⟨kvs',hp,F,h3,h4⟩:∃ kvs',kvs'.Perm kvs∧∃ F,Hg E.m w [.mp kvs'] [E.bv k] F∧∀ b∈F,b∈E.bf k:=by
  generalize E.bv k=v at h1
  generalize E.bf k=G at h1 ⊢
  cases h1 with
  | pm hp h hs h3=>exact ⟨_,hp,_,h,fun b hb=>List.mem_append_left _ hb⟩
 obtain ⟨E',g,_⟩:=hg.retree k _ (.mp kvs') F h (fun ys e=>by cases e) (fun y e=>by cases e) (fun ys e=>by cases e) h3 (fun b hb=>.inl (h4 b hb))
 exact hk kvs' hp E' a w g
end
end Go.Proofs.YthfocmakkeonoaaGreatDoor
namespace Go.Proofs.YthfocmakkeonoaaGreatDoor
open Go.RowKit
section
variable {m:Mem} {w:World}
theorem Hg.uncons {x:T} {xs:List T} {v:Value} {vs:List Value} {F:List Nat} (h:Hg m w (x::xs) (v::vs) F) :
  ∃ F1 F2:List Nat,Hg m w [x] [v] F1∧Hg m w xs vs F2∧(∀ b,b∈F↔b∈F1∨b∈F2)∧∀ b∈F1,b∉F2:=by
 cases h with
 | @av _ _ _ _ F h hs=>exact ⟨[],F,.av h .nil,hs,fun b=>by simp,fun b h=>by cases h⟩
 | @box _ _ b us ty F1 _ F2 hb hm h hs h1 h2 h3=>exact ⟨b::(F1++[]),F2,.box hb hm h .nil h1 (by simp) (by simp),hs,fun c=>by simp [or_assoc],fun c hc=>by
   simp at hc
   rcases hc with rfl | hc
   ·exact h2
   ·exact h3 c hc⟩
 | @row e sz es _ _ us F1 _ F2 ho hz hm h hs h3=>exact ⟨v.ownBlock.toList++(F1++[]),F2,.row ho hz (fun b hb=>⟨(hm b hb).1,(hm b hb).2.1,by simp⟩) h .nil (by simp),hs,fun c=>by simp [or_assoc],fun c hc=>by
   simp at hc
   rcases hc with hc | hc
   ·exact (hm c hc).2.2
   ·exact h3 c hc⟩
 | @rw e sz es _ _ us _ F2 ho hz hr hm hs=>exact ⟨v.ownBlock.toList++[],F2,.rw ho hz hr (fun b hb=>⟨(hm b hb).1,by simp⟩) .nil,hs,fun c=>by simp,fun c hc=>by
   simp at hc
   exact (hm c hc).2⟩
 | @mp kvs _ b ents clock F1 _ F2 hb hm hk hk2 hn hc h hs h1 h2 h3=>exact ⟨b::(F1++[]),F2,.mp hb hm hk hk2 hn hc h .nil h1 (by simp) (by simp),hs,fun c=>by simp [or_assoc],fun c hc=>by
   simp at hc
   rcases hc with rfl | hc
   ·exact h2
   ·exact h3 c hc⟩
 | @pm kvs kvs' _ _ _ F1 F2 hp h hs h3=>exact ⟨F1++[],F2,.pm hp h .nil (by simp),hs,fun c=>by simp,fun c hc=>h3 c (by simpa using hc)⟩
 | @bag ps _ _ F1 F2 h hs h3=>exact ⟨F1++[],F2,.bag h .nil (by simp),hs,fun c=>by simp,fun c hc=>h3 c (by simpa using hc)⟩
theorem Hg.consed {x:T} {xs:List T} {v:Value} {vs:List Value} {F1 F2:List Nat} (h:Hg m w [x] [v] F1) (hs:Hg m w xs vs F2) (hd:∀ b∈F1,b∉F2) :
  ∃ F:List Nat,Hg m w (x::xs) (v::vs) F∧∀ b,b∈F↔b∈F1∨b∈F2:=by
 cases h with
 | av h h0=>cases h0;exact ⟨_,.av h hs,fun b=>by simp⟩
 | box hb hm h h0 h1 h2 h3=>cases h0;exact ⟨_,.box hb hm h hs h1 (hd _ (by simp)) (fun i hi=>hd i (by simp [hi])),fun b=>by simp [or_assoc]⟩
 | row ho hz hm h h0 h3=>cases h0;exact ⟨_,.row ho hz (fun b hb=>⟨(hm b hb).1,(hm b hb).2.1,hd b (by simp [hb])⟩) h hs (fun i hi=>hd i (by simp [hi])),fun b=>by simp [or_assoc]⟩
 | rw ho hz hr hm h0=>cases h0;exact ⟨_,.rw ho hz hr (fun b hb=>⟨(hm b hb).1,hd b (by simp [hb])⟩) hs,fun b=>by simp⟩
 | mp hb hm hk hk2 hn hc h h0 h1 h2 h3=>cases h0;exact ⟨_,.mp hb hm hk hk2 hn hc h hs h1 (hd _ (by simp)) (fun i hi=>hd i (by simp [hi])),fun b=>by simp [or_assoc]⟩
 | pm hp h h0 h3=>cases h0;exact ⟨_,.pm hp h hs (fun i hi=>hd i (by simp [hi])),fun b=>by simp⟩
 | bag h h0 h3=>cases h0;exact ⟨_,.bag h hs (fun i hi=>hd i (by simp [hi])),fun b=>by simp⟩
theorem Hg.take_any:∀ {xs:List T} {vs:List Value} {F:List Nat} {j:Nat} {x:T},Hg m w xs vs F→xs[j]? = some x →
  ∃ (v:Value) (F1 F2:List Nat),vs[j]? = some v∧Hg m w [x] [v] F1∧(∀ y,(∀ u,Rd m y u)∨y=.sc v→∃ F':List Nat,Hg m w (xs.set j (.av y)) vs F'∧∀ b,b∈F'↔b∈F2)∧(∀ b,b∈F↔b∈F1∨b∈F2)∧∀ b∈F1,b∉F2
 | [],_,_,j,x,_,hj=>by simp at hj
 | x0::xs,[],_,j,x,h,hj=>by have:=h.len;simp at this
 | x0::xs,v0::vs,F,0,x,h,hj=>by
  simp at hj
  subst hj
  obtain ⟨F1,F2,h1,h2,h3,h4⟩:=h.uncons
  exact ⟨v0,F1,F2,rfl,h1,fun y hy=>⟨F2,.av (by rcases hy with hy | rfl;exact hy _;exact .sc _) h2,fun _=>Iff.rfl⟩,h3,h4⟩
 | x0::xs,v0::vs,F,j+1,x,h,hj=>by
  obtain ⟨G1,G2,h1,h2,h3,h4⟩:=h.uncons
  obtain ⟨v,F1,F2,k1,k2,k3,k4,k5⟩:=Hg.take_any (j:=j) (x:=x) h2 (by simpa using hj)
  refine ⟨v,F1,G1++F2,by simpa using k1,k2,fun y hy=>?_,fun b=>?_,fun b hb=>?_⟩
  ·obtain ⟨F0,q0,q00⟩:=k3 y hy
   obtain ⟨F',q1,q2⟩:=Hg.consed h1 q0 (fun b hb h=>h4 b hb ((k4 b).2 (.inr ((q00 b).1 h))))
   exact ⟨F',q1,fun b=>by rw [q2,q00,List.mem_append]⟩
  ·rw [h3,k4,List.mem_append]
   constructor
   ·rintro (h | h | h)
    ·exact .inr (.inl h)
    ·exact .inl h
    ·exact .inr (.inr h)
   ·rintro (h | h | h)
    ·exact .inr (.inl h)
    ·exact .inl h
    ·exact .inr (.inr h)
  ·rw [List.mem_append,not_or]
   exact ⟨fun h=>h4 b h ((k4 b).2 (.inl hb)),k5 b hb⟩
theorem Hg.give_any:∀ {xs:List T} {vs:List Value} {F:List Nat} {j:Nat} {x:T} {y:V} {v:Value} {G:List Nat},Hg m w xs vs F→xs[j]? = some (.av y)→vs[j]? = some v→Hg m w [x] [v] G→(∀ b∈G,b∉F) →
  ∃ F':List Nat,Hg m w (xs.set j x) vs F'∧∀ b,b∈F'↔b∈G∨b∈F
 | [],_,_,j,x,y,v,G,_,hj,_,_,_=>by simp at hj
 | x0::xs,[],_,j,x,y,v,G,h,hj,_,_,_=>by have:=h.len;simp at this
 | x0::xs,v0::vs,F,0,x,y,v,G,h,hj,hv,hx,hd=>by
  simp at hj hv
  subst hj hv
  cases h with
  | av h hs=>exact Hg.consed hx hs hd
 | x0::xs,v0::vs,F,j+1,x,y,v,G,h,hj,hv,hx,hd=>by
  obtain ⟨G1,G2,h1,h2,h3,h4⟩:=h.uncons
  obtain ⟨F0,q0,q00⟩:=Hg.give_any (j:=j) (x:=x) h2 (by simpa using hj) (by simpa using hv) hx (fun b hb h=>hd b hb ((h3 b).2 (.inr h)))
  obtain ⟨F',q1,q2⟩:=Hg.consed h1 q0 (fun b hb h=>by
   rcases (q00 b).1 h with h | h
   ·exact hd b h ((h3 b).2 (.inl hb))
   ·exact h4 b hb h)
  refine ⟨F',q1,fun b=>?_⟩
  rw [q2,q00,h3]
  constructor
  ·rintro (h | h | h)
   ·exact .inr (.inl h)
   ·exact .inl h
   ·exact .inr (.inr h)
  ·rintro (h | h | h)
   ·exact .inr (.inl h)
   ·exact .inl h
   ·exact .inr (.inr h)
theorem Hg.leave:∀ {xs:List T} {vs:List Value} {F:List Nat} (j:Nat),Hg m w xs vs F→∃ F':List Nat,Hg m w (xs.eraseIdx j) (vs.eraseIdx j) F'∧∀ b∈F',b∈F
 | [],vs,F,j,h=>by have:=h.len;simp at this;subst this;exact ⟨F,by simpa using h,fun b h=>h⟩
 | x0::xs,[],_,j,h=>by have:=h.len;simp at this
 | x0::xs,v0::vs,F,0,h=>by
  obtain ⟨F1,F2,h1,h2,h3,h4⟩:=h.uncons
  exact ⟨F2,h2,fun b hb=>(h3 b).2 (.inr hb)⟩
 | x0::xs,v0::vs,F,j+1,h=>by
  obtain ⟨F1,F2,h1,h2,h3,h4⟩:=h.uncons
  obtain ⟨F0,q0,q00⟩:=Hg.leave j h2
  obtain ⟨F',q1,q2⟩:=Hg.consed h1 q0 (fun b hb h=>h4 b hb (q00 b h))
  exact ⟨F',by simpa using q1,fun b hb=>by
   rw [h3]
   rcases (q2 b).1 hb with h | h
   ·exact .inl h
   ·exact .inr (q00 b h)⟩
theorem Hg.insert:∀ {xs:List T} {vs:List Value} {F:List Nat} {x:T} {v:Value} {G:List Nat} (j:Nat),Hg m w xs vs F→j≤xs.length→Hg m w [x] [v] G→(∀ b∈G,b∉F)→∃ F':List Nat,Hg m w (xs.insertIdx j x) (vs.insertIdx j v) F'∧∀ b,b∈F'↔b∈G∨b∈F
 | xs,vs,F,x,v,G,0,h,_,hx,hd=>by simpa using Hg.consed hx h hd
 | [],vs,F,x,v,G,j+1,h,hj,_,_=>by simp at hj
 | x0::xs,[],_,x,v,G,j+1,h,_,_,_=>by have:=h.len;simp at this
 | x0::xs,v0::vs,F,x,v,G,j+1,h,hj,hx,hd=>by
  obtain ⟨F1,F2,h1,h2,h3,h4⟩:=h.uncons
  obtain ⟨F0,q0,q00⟩:=Hg.insert j h2 (by simpa using hj) hx (fun b hb h=>hd b hb ((h3 b).2 (.inr h)))
  obtain ⟨F',q1,q2⟩:=Hg.consed h1 q0 (fun b hb h=>by
   rcases (q00 b).1 h with h | h
   ·exact hd b h ((h3 b).2 (.inl hb))
   ·exact h4 b hb h)
  refine ⟨F',by simpa using q1,fun b=>?_⟩
  rw [q2,q00,h3]
  constructor
  ·rintro (h | h | h)
   ·exact .inr (.inl h)
   ·exact .inl h
   ·exact .inr (.inr h)
  ·rintro (h | h | h)
   ·exact .inr (.inl h)
   ·exact .inl h
   ·exact .inr (.inr h)
abbrev pw (b:Nat):Value:=.pointer (some ⟨b,0,none⟩)
def Qb5:T→CA
 | .av x=>.val x
 | .box xs=>.hd (.box xs)
 | .row e sz es=>.hd (.row e sz es)
 | .rw e sz es=>.hd (.rw e sz es)
 | .mp kvs=>.hd (.mp kvs)
 | .pm kvs=>.hd (.pm kvs)
 | .bag ps=>.hd (.bag ps)
theorem QsM {x:T} (hx:∀ y,x≠.av y):Qb5 x=.hd x:=by
 cases x with
 | av y=>exact absurd rfl (hx y)
 | _=>rfl
theorem Qwj {bs:List Nat} {x:T} {v:Value} {F:List Nat} (h:Hg m w [x] [v] F):CAok m w bs (Qb5 x) v F:=by
 by_cases hx:∀ y,x≠.av y
 ·rw [QsM hx];exact ⟨h,hx⟩
 ·have ⟨y,hy⟩:=Classical.not_forall.1 hx
  have hy:x=.av y:=Classical.not_not.1 hy
  subst hy
  cases h with
  | av h h0=>cases h0;exact ⟨h,rfl⟩
theorem Qwk {bs:List Nat} {x:T} {v:Value} {F:List Nat} (h:CAok m w bs (Qb5 x) v F):Hg m w [x] [v] F:=by
 by_cases hx:∀ y,x≠.av y
 ·rw [QsM hx] at h;exact h.1
 ·have ⟨y,hy⟩:=Classical.not_forall.1 hx
  have hy:x=.av y:=Classical.not_not.1 hy
  subst hy
  obtain ⟨h1,rfl⟩:=h
  exact .av h1 .nil
theorem QgB {bs:List Nat}:∀ {xs:List T} {vs:List Value} {F:List Nat},Hg m w xs vs F→∃ F':List Nat,ArgsOk m w bs ((xs.map Qb5).map .ca) vs F'∧∀ b,b∈F'↔b∈F
 | [],vs,F,h=>by cases h;exact ⟨[],.nil,fun _=>Iff.rfl⟩
 | x::xs,[],F,h=>by have:=h.len;simp at this
 | x::xs,v::vs,F,h=>by
  obtain ⟨F1,F2,h1,h2,h3,h4⟩:=h.uncons
  obtain ⟨F',q1,q2⟩:=QgB (bs:=bs) h2
  exact ⟨F1++F',.cons (Qwj h1) q1 (fun b hb h=>h4 b hb ((q2 b).1 h)),fun b=>by rw [List.mem_append,q2,h3]⟩
theorem QjB {bs:List Nat}:∀ {xs:List T} {vs:List Value} {F:List Nat},ArgsOk m w bs ((xs.map Qb5).map .ca) vs F→∃ F':List Nat,Hg m w xs vs F'∧∀ b,b∈F'↔b∈F
 | [],vs,F,h=>by cases h;exact ⟨[],.nil,fun _=>Iff.rfl⟩
 | x::xs,vs,F,h=>by
  rw [List.map_cons,List.map_cons] at h
  cases h with
  | @cons _ v F1 _ vs' F2 h hs hd=>
   obtain ⟨F0,q1,q2⟩:=QjB hs
   obtain ⟨F',r1,r2⟩:=Hg.consed (Qwk (x:=x) h) q1 (fun b hb h=>hd b hb ((q2 b).1 h))
   exact ⟨F',r1,fun b=>by rw [r2,q2,List.mem_append]⟩
theorem QgC {ps:List (Value × T)} {v:Value} {F:List Nat} (h:Hg m w [.bag ps] [v] F):∃ F1:List Nat,v=.bool false∧Hg m w (ps.map (·.2)) (ps.map (·.1)) F1∧∀ b,b∈F↔b∈F1:=by
 cases h with
 | bag h h0 h3=>cases h0;exact ⟨_,rfl,h,fun b=>by simp⟩
theorem QjC {ps:List (Value × T)} {F:List Nat} (h:Hg m w (ps.map (·.2)) (ps.map (·.1)) F):Hg m w [.bag ps] [.bool false] F:=by
 have:=Hg.bag h .nil (fun i _ h=>by cases h)
 simpa using this
theorem QmZ {ys:List T} {v:Value} {F:List Nat} (h:Hg m w [.box ys] [v] F):∃ (b:Nat) (us:List Value) (ty:TypeId) (F1:List Nat),v=.pointer (some ⟨b,0,none⟩)∧w.heap[b]? = some (.cells us.toArray ty (0,0))∧(∀ i,m b i=none)∧Hg m w ys us F1∧b∉F1∧∀ c,c∈F↔c=b∨c∈F1:=by
 cases h with
 | box hb hm h h0 h1 h2 h3=>cases h0;exact ⟨_,_,_,_,rfl,hb,hm,h,h1,fun c=>by simp⟩
theorem QCd {ys:List T} {b:Nat} {us:List Value} {ty:TypeId} {F1:List Nat} (hb:w.heap[b]? = some (.cells us.toArray ty (0,0))) (hm:∀ i,m b i=none) (h:Hg m w ys us F1) (h1:b∉F1):Hg m w [.box ys] [.pointer (some ⟨b,0,none⟩)] (b::F1):=by
 have:=Hg.box hb hm h .nil h1 (by simp) (by simp)
 simpa using this
end
attribute [go_sem] Qb5
section
variable {P:Program} {ops:Array Oper} {C:Ctx} {E:Env} {σ:St} {a:Act} {w:World}
def QdR (ts:List Nat) (x:AV):List (Pl × X):=ts.map fun t=>(.s t,.av x)
theorem Gm.slots (x:AV):∀ (ts:List Nat) (σ:St),Gm C E σ a w→(∀ t∈ts,t<C.nt)→(∀ s:St,(∀ l,(∀ t,l≠.s t)→s l=σ l)→∀ t∈ts,RdA E s x (a.tmps.getD t undef))→Gm C E (Qaf σ (QdR ts x)) a w
 | [],σ,hg,_,_=>hg
 | t::ts,σ,hg,ht,hx=>by
  have h1:=hg.ghost t x (ht t (List.mem_cons_self ..)) (hx σ (fun _ _=>rfl) t (List.mem_cons_self ..))
  exact Gm.slots x ts _ h1 (fun u hu=>ht u (List.mem_cons_of_mem _ hu)) fun s hs u hu=>hx s (fun l hl=>by rw [hs l hl,Qag _ _ (hl t)]) u (List.mem_cons_of_mem _ hu)
theorem QjD (x:AV):∀ (ts:List Nat) (σ:St) {l:Pl},(∀ t,l≠.s t)→Qaf σ (QdR ts x) l=σ l
 | [],_,_,_=>rfl
 | t::ts,σ,l,h=>(QjD x ts (put σ (.s t) (.av x)) h).trans (Qag _ _ (h t))
def QcJ (σ:St) (x:AV) (n:Nat):List Nat→Prop
 | []=>True
 | t::ts=>(σ (.s t)=.av x∧t<n)∧QcJ σ x n ts
theorem QbS {x:AV} {n:Nat}:∀ {ts:List Nat},QcJ σ x n ts→∀ t∈ts,σ (.s t)=.av x∧t<n
 | [],_,_,h=>by cases h
 | t::ts,h,u,hu=>by
  rcases List.mem_cons.1 hu with rfl | hu
  ·exact h.1
  ·exact QbS h.2 u hu
def QDy (σ:St) (k o:Id) (ps:List (Value × T)) (ys:List T) (u:Value) (qs ts:List Nat):List (Pl × X):=
 (.r k,.tree (.bag ps))::(QaT (put σ (.r k) (.tree (.bag ps))) [] o (gg σ o+1) (ys.map Qb5)++(QdR qs (.pv u o (gg σ o+1))++QdR ts (.ptr o (gg σ o+1) 0)))
theorem Gm.open (hg:Gm C E σ a w) {k o:Id} {ps:List (Value × T)} {i:Nat} {u:Value} {ys:List T} {qs ts:List Nat} (hi:ps[i]? = some (u,.box ys)) (h1:σ (.r k)=.tree (.bag ps)) (ho:o.2=0∧C.pins o=none) (hqs:∀ t∈qs,t<C.nt) (hdj:∀ t∈qs,t∉ts) (hts:QcJ σ (.val (.sc u)) C.nt ts) :
  ∃ E',Gm C E' (Qaf σ (QDy σ k o (ps.set i (u,.av .any)) ys u qs ts)) a w:=by
 obtain ⟨hb,_⟩:=hg.tr.hg k _ h1
 obtain ⟨F1,b1,b2,b3⟩:=QgC hb
 obtain ⟨v,Fa,Fb,c1,c2,c3,c4,c5⟩:=b2.take_any (j:=i) (x:=.box ys) (by rw [List.getElem?_map,hi];rfl)
 have hvu:v=u:=by
  rw [List.getElem?_map,hi] at c1
  exact (Option.some.inj c1).symm
 subst hvu
 obtain ⟨F',q1,q2⟩:=c3 .any (.inl fun u=>.any u)
 have hbag:Hg E.m w [.bag (ps.set i (v,.av .any))] [E.bv k] F':=by
  rw [b1]
  refine QjC ?_
  rw [List.map_set,List.map_set,QdG (l:=ps.map (·.1)) c1]
  exact q1
 obtain ⟨E1,g1,m1,e1,e2,e3⟩:=hg.retree k _ (.bag (ps.set i (v,.av .any))) F' h1 (fun ys h=>by cases h) (fun y h=>by cases h) (fun ys h=>by cases h) hbag (fun b hb=>.inl ((b3 b).2 ((c4 b).2 (.inr ((q2 b).1 hb)))))
 obtain ⟨b,us,ty,Fy,rfl,y1,y2,y3,y4,y5⟩:=QmZ c2
 obtain ⟨Fz,z1,z2⟩:=QgB (bs:=[]) y3
 have hgo:gg (put σ (.r k) (.tree (.bag (ps.set i (Value.pointer (some ⟨b,0,none⟩),.av .any))))) o=gg σ o:=Qaz (Qag _ _ (by simp))
 obtain ⟨E2,g2,m2,f1,f2,f3,f4,f5,f6⟩:=Qet g1 [] [] (fun ob o' b h=>by simp at h) o (gg σ o+1) b (.inr ⟨by rw [hgo];omega,ho.2,ho.1⟩) ty (ys.map Qb5) us Fz (fun k' hk'=>⟨by simp,fun e=>by
   have:∀ (cs:List CA) (j:Nat),∀ k∈QbE o j cs,k.2≠0:=by
    intro cs
    induction cs with
    | nil=>intro j k hk;cases hk
    | cons c cs ih=>
     intro j k hk
     simp only [QbE] at hk
     split at hk
     ·rcases List.mem_cons.1 hk with rfl | hk
      ·exact QnV o j
      ·exact ih _ k hk
     ·exact ih _ k hk
   exact this _ _ _ hk' (e ▸ ho.1)⟩) y1 (fun i=>by rw [e1];exact y2 i) (by rw [e1];exact z1) (fun h=>y4 ((z2 b).1 h)) (fun c hc=>by
   have hca:c∈Fa:=(y5 c).2 (by
    rcases List.mem_cons.1 hc with h | h
    ·exact .inl h
    ·exact .inr ((z2 c).1 h))
   have hin:c∈E.bf k:=(b3 c).2 ((c4 c).2 (.inl hca))
   refine ⟨hg.tr.dd k _ c h1 hin,fun ⟨t,ht⟩=>?_⟩
   rcases e3 t c ht with ⟨q3,q4⟩ | ⟨q3,q4⟩
   ·exact q3 (hg.ho_inj q4 (t':=.r k) ⟨_,h1,hin⟩)
   ·exact c5 c hca ((q2 c).1 q4))
 refine ⟨E2,?_⟩
 unfold QDy
 show Gm C E2 (Qaf (put σ _ _) (QaT _ [] o (gg σ o+1) (ys.map Qb5)++_)) a w
 rw [Qal]
 have hsl:=QbS hts
 have hval:∀ t∈ts,a.tmps.getD t undef=.pointer (some ⟨b,0,none⟩):=fun t ht=>Rd.sc_eq (hg.sl t _ (hsl t ht).1)
 have key:∀ s:St,(∀ l,(∀ t,l≠.s t)→s l=Qaf (put σ (.r k) (.tree (.bag (ps.set i (Value.pointer (some ⟨b,0,none⟩),.av .any))))) (QaT (put σ (.r k) (.tree (.bag (ps.set i (Value.pointer (some ⟨b,0,none⟩),.av .any))))) [] o (gg σ o+1) (ys.map Qb5)) l)→gg s o=gg σ o+1:=fun s hs=>by
  rw [←f4]
  exact Qaz (hs (.g o) (by simp))
 rw [Qal]
 have g3:=Gm.slots (.pv (.pointer (some ⟨b,0,none⟩)) o (gg σ o+1)) qs _ g2 hqs fun s hs t _=>⟨Nat.le_of_eq (key s hs).symm,fun _=>by rw [f3]⟩
 refine Gm.slots (.ptr o (gg σ o+1) 0) ts _ g3 (fun t ht=>(hsl t ht).2) fun s hs t ht=>?_
 rw [hval t ht]
 exact ⟨Nat.le_of_eq (key s fun l hl=>(hs l hl).trans (QjD _ _ _ hl)).symm,fun _=>by rw [f3]⟩
theorem Gm.boxed (hg:Gm C E σ a w) {o:Id} {ys:List T} (hm:Qdq σ [o] [o] [ys.map Qb5]) (hn:(Qam σ [o] [ys.map Qb5]).Nodup) :
  ∃ G,Hg E.m w [.box ys] [.pointer (some ⟨E.loc o,0,none⟩)] G∧(∀ b∈G,∃ t∈Qam σ [o] [ys.map Qb5],HoB E σ t b)∧Gm C E (Qaf σ (Qa0 σ (Qam σ [o] [ys.map Qb5]))) a w ∧
   (∀ t b,HoB E (Qaf σ (Qa0 σ (Qam σ [o] [ys.map Qb5]))) t b→HoB E σ t b∧t∉Qam σ [o] [ys.map Qb5]):=by
 obtain ⟨_,G,h1,h2⟩:=QnY hg (Qch hm) hn
 generalize Qam σ [o] [ys.map Qb5]=ts at h2 hn ⊢
 obtain ⟨d1,d2,d3,d3',d3'',d4,d5,d5',d6⟩:=Qj9 (σ:=σ) ts
 obtain ⟨g1,m1,l1⟩:=hg.drop _ d1 d2 d3 (fun o n h=>(d4 o n h).1) (fun k e sz T h=>(d5 k e sz T h).1) d6 (fun k x h=>(d5' k x h).1) (fun k i y h=>by rw [←d3''];exact h) d3' (fun o k g s h=>Qlg ts o k g s h)
 have hd:∀ t b,HoB E (Qaf σ (Qa0 σ ts)) t b→HoB E σ t b∧t∉ts:=fun t b ht=>⟨l1 t b ht,by
  cases t with
  | o i=>obtain ⟨n,q1,q2⟩:=ht;exact (d4 i n q1).2
  | k i=>obtain ⟨e,sz,T,q1,q2⟩:=ht;exact (d5 i e sz T q1).2
  | r i=>obtain ⟨x,q1,q2⟩:=ht;exact (d5' i x q1).2⟩
 cases h1 with
 | @cons b cs vs ty F bs' objs F' hb hm0 hA hn hs hd'=>
  cases hs
  obtain ⟨F1,r1,r2⟩:=QjB hA
  exact ⟨E.loc o::F1,QCd hb hm0 r1 (fun h=>hn ((r2 _).1 h)),fun c hc=>h2 c (by
   rcases List.mem_cons.1 hc with rfl | hc
   ·simp
   ·simp [(r2 c).1 hc]),g1,hd⟩
end
section
variable {P:Program} {ops:Array Oper} {C:Ctx} {E:Env} {σ:St} {a:Act} {w:World}
theorem Qkr {k:Id} {ts:List Ho} (hk:Ho.r k∉ts):Qaf σ (Qa0 σ ts) (.r k)=σ (.r k):=
 Qcd _ _ _ fun hl=>by
  obtain ⟨p,hp,he⟩:=List.mem_map.1 hl
  obtain ⟨t,q1,q2⟩:=QfE hp
  cases t with
  | o i=>
   simp only [Qbd,List.mem_cons,List.not_mem_nil,or_false] at q2
   cases he.symm.trans (congrArg Prod.fst q2)
  | k i=>
   simp only [Qbd,List.mem_cons,List.not_mem_nil,or_false] at q2
   rcases q2 with q2 | q2 <;> cases he.symm.trans (congrArg Prod.fst q2)
  | r i=>
   simp only [Qbd,List.mem_cons,List.not_mem_nil,or_false] at q2
   cases he.symm.trans (congrArg Prod.fst q2)
   exact hk q1
def QxQ (σ:St) (k o:Id) (ps:List (Value × T)) (ys:List T) (u:Value) (ts:List Nat):List (Pl × X):=
 Qa0 σ (Qam σ [o] [ys.map Qb5])++((.r k,.tree (.bag ps))::QdR ts (.val (.sc u)))
theorem Gm.close (hg:Gm C E σ a w) {k o:Id} {ps:List (Value × T)} {i t0:Nat} {u:Value} {y:V} {ys:List T} {ts:List Nat} (hi:ps[i]? = some (u,.av y)) (h1:σ (.r k)=.tree (.bag ps)) (h0:σ (.s t0)=.av (.pv u o (gg σ o))) (hm:Qdq σ [o] [o] [ys.map Qb5]) (hn:(Qam σ [o] [ys.map Qb5]).Nodup)
  (hk:Ho.r k∉Qam σ [o] [ys.map Qb5]) (hts:QcJ σ (.ptr o (gg σ o) 0) C.nt ts):∃ E',Gm C E' (Qaf σ (QxQ σ k o (ps.set i (u,.box ys)) ys u ts)) a w:=by
 have hu:u=.pointer (some ⟨E.loc o,0,none⟩):=(hg.sl t0 _ h0).2 rfl
 obtain ⟨G,b1,b2,g1,b4⟩:=hg.boxed hm hn
 unfold QxQ
 rw [Qal]
 have hsl:=QbS hts
 have hval:∀ t∈ts,a.tmps.getD t undef=u:=fun t ht=>by rw [hu];exact (hg.sl t _ (hsl t ht).1).2 rfl
 generalize Qam σ [o] [ys.map Qb5]=toks at *
 have h1':Qaf σ (Qa0 σ toks) (.r k)=.tree (.bag ps):=(Qkr hk).trans h1
 obtain ⟨hb,_⟩:=g1.tr.hg k _ h1'
 obtain ⟨F1,c1,c2,c3⟩:=QgC hb
 have hi1:(ps.map (·.1))[i]? = some u:=by rw [List.getElem?_map,hi];rfl
 obtain ⟨F',q1,q2⟩:=c2.give_any (j:=i) (x:=.box ys) (y:=y) (v:=u) (G:=G) (by rw [List.getElem?_map,hi];rfl) hi1 (by rw [hu];exact b1) (fun b hG hF=>by
  obtain ⟨t,r1,r2⟩:=b2 b hG
  obtain ⟨s1,s2⟩:=b4 (.r k) b ⟨_,h1',(c3 b).2 hF⟩
  exact hk (hg.ho_inj r2 s1 ▸ r1))
 have hbag:Hg E.m w [.bag (ps.set i (u,.box ys))] [E.bv k] F':=by
  rw [c1]
  refine QjC ?_
  rw [List.map_set,List.map_set,QdG (l:=ps.map (·.1)) hi1]
  exact q1
 obtain ⟨E1,g2,m1,e1,e2,e3⟩:=g1.retree k _ (.bag (ps.set i (u,.box ys))) F' h1' (fun ys h=>by cases h) (fun y h=>by cases h) (fun ys h=>by cases h) hbag (fun b hb'=>by
  rcases (q2 b).1 hb' with h | h
  ·obtain ⟨t,r1,r2⟩:=b2 b h
   exact .inr ⟨(hg.ho_dd r2).2,fun ⟨t',ht'⟩=>by
    obtain ⟨s1,s2⟩:=b4 t' b ht'
    exact s2 (hg.ho_inj r2 s1 ▸ r1)⟩
  ·exact .inl ((c3 b).2 h))
 refine ⟨E1,?_⟩
 show Gm C E1 (Qaf (put (Qaf σ (Qa0 σ toks)) (.r k) _) (QdR ts _)) a w
 exact Gm.slots (.val (.sc u)) ts _ g2 (fun t ht=>(hsl t ht).2) fun s _ t ht=>by rw [hval t ht];exact Rd.sc u
theorem QgD {α β:Type} (f:α→β):∀ (l:List α) (j:Nat) (x:α),(l.insertIdx j x).map f=(l.map f).insertIdx j (f x)
 | l,0,x=>by simp
 | [],j+1,x=>by simp
 | y::l,j+1,x=>by simp [QgD f l j x]
theorem Gm.bagIn (hg:Gm C E σ a w) {k o:Id} {ps:List (Value × T)} {i:Nat} {ys:List T} {ts:List Nat} (hi:i≤ps.length) (h1:σ (.r k)=.tree (.bag ps)) (hm:Qdq σ [o] [o] [ys.map Qb5]) (hn:(Qam σ [o] [ys.map Qb5]).Nodup)
  (hk:Ho.r k∉Qam σ [o] [ys.map Qb5]) (hts:QcJ σ (.ptr o (gg σ o) 0) C.nt ts):∃ b E',Gm C E' (Qaf σ (QxQ σ k o (ps.insertIdx i (pw b,.box ys)) ys (pw b) ts)) a w:=by
 refine ⟨E.loc o,?_⟩
 obtain ⟨u,hu⟩:∃ u,u=pw (E.loc o):=⟨_,rfl⟩
 rw [←hu]
 obtain ⟨G,b1,b2,g1,b4⟩:=hg.boxed hm hn
 unfold QxQ
 simp only [Qal]
 have hsl:=QbS hts
 have hval:∀ t∈ts,a.tmps.getD t undef=u:=fun t ht=>by rw [hu];exact (hg.sl t _ (hsl t ht).1).2 rfl
 generalize Qam σ [o] [ys.map Qb5]=toks at *
 have h1':Qaf σ (Qa0 σ toks) (.r k)=.tree (.bag ps):=(Qkr hk).trans h1
 obtain ⟨hb,_⟩:=g1.tr.hg k _ h1'
 obtain ⟨F1,c1,c2,c3⟩:=QgC hb
 obtain ⟨F',q1,q2⟩:=c2.insert (x:=.box ys) (v:=u) (G:=G) i (by simpa using hi) (by rw [hu];exact b1) (fun b hG hF=>by
  obtain ⟨t,r1,r2⟩:=b2 b hG
  obtain ⟨s1,s2⟩:=b4 (.r k) b ⟨_,h1',(c3 b).2 hF⟩
  exact hk (hg.ho_inj r2 s1 ▸ r1))
 have hbag:Hg E.m w [.bag (ps.insertIdx i (u,.box ys))] [E.bv k] F':=by
  rw [c1]
  refine QjC ?_
  rw [QgD,QgD]
  exact q1
 obtain ⟨E1,g2,m1,e1,e2,e3⟩:=g1.retree k _ (.bag (ps.insertIdx i (u,.box ys))) F' h1' (fun ys h=>by cases h) (fun y h=>by cases h) (fun ys h=>by cases h) hbag (fun b hb'=>by
  rcases (q2 b).1 hb' with h | h
  ·obtain ⟨t,r1,r2⟩:=b2 b h
   exact .inr ⟨(hg.ho_dd r2).2,fun ⟨t',ht'⟩=>by
    obtain ⟨s1,s2⟩:=b4 t' b ht'
    exact s2 (hg.ho_inj r2 s1 ▸ r1)⟩
  ·exact .inl ((c3 b).2 h))
 refine ⟨E1,?_⟩
 show Gm C E1 (Qaf (put (Qaf σ (Qa0 σ toks)) (.r k) _) (QdR ts _)) a w
 exact Gm.slots (.val (.sc u)) ts _ g2 (fun t ht=>(hsl t ht).2) fun s _ t ht=>by rw [hval t ht];exact Rd.sc u
theorem Gm.bagOut (hg:Gm C E σ a w) {k:Id} {ps:List (Value × T)} (i:Nat) (h1:σ (.r k)=.tree (.bag ps)):∃ E',Gm C E' (Qaf σ [(.r k,.tree (.bag (ps.eraseIdx i)))]) a w:=by
 obtain ⟨hb,_⟩:=hg.tr.hg k _ h1
 obtain ⟨F1,c1,c2,c3⟩:=QgC hb
 obtain ⟨F',q1,q2⟩:=c2.leave i
 obtain ⟨E1,g2,_⟩:=hg.retree k _ (.bag (ps.eraseIdx i)) F' h1 (fun ys h=>by cases h) (fun y h=>by cases h) (fun ys h=>by cases h) (by
  rw [c1]
  refine QjC ?_
  rw [Qiu,Qiu]
  exact q1) (fun b hb'=>.inl ((c3 b).2 (q2 b hb')))
 exact ⟨E1,g2⟩
theorem QsN {m:Mem} {e:TypeId} {sz:Nat} {es:List (List T)} {v:Value} {F:List Nat} (h:Hg m w [.row e sz es] [v] F) :
  ∃ us F1,w.ownsRow 0 e sz v es.length us∧(∀ r∈es,r.length=sz)∧(∀ b,v.ownBlock=some b→(∀ i,m b i=none)∧b∉F1)∧Hg m w es.flatten us F1∧∀ b,b∈F↔v.ownBlock=some b∨b∈F1:=by
 cases h with
 | @row _ _ _ _ _ us F1 _ F2 ho hz hm h hs h3=>cases hs;exact ⟨us,F1,ho,hz,fun b hb=>⟨(hm b hb).1,(hm b hb).2.1⟩,h,fun b=>by simp⟩
theorem QxR {m:Mem} {e:TypeId} {sz:Nat} {es:List (List T)} {v:Value} {us:List Value} {F1:List Nat} (ho:w.ownsRow 0 e sz v es.length us) (hz:∀ r∈es,r.length=sz) (hm:∀ b,v.ownBlock=some b→(∀ i,m b i=none)∧b∉F1) (h:Hg m w es.flatten us F1) :
  Hg m w [.row e sz es] [v] (v.ownBlock.toList++F1):=by
 have:=Hg.row ho hz (fun b hb=>⟨(hm b hb).1,(hm b hb).2,by simp⟩) h .nil (fun i _ h=>by cases h)
 simpa using this
theorem QfU {α β:Type} (g:α→β) (l:List α):(l.map fun a=>[g a]).flatten=l.map g:=by
 induction l <;> simp_all
theorem Qoh {α:Type} (l:List α):(l.map fun a=>[a]).flatten=l:=by
 induction l <;> simp_all
def QDz (σ:St) (k kb:Id) (es:List (List V)) (e:TypeId) (ps:List (Value × T)):List (Pl × X):=(.r k,.tree (.rw e 1 es))::QaA (put σ (.r k) (.tree (.rw e 1 es))) kb (.bag ps)
theorem Qks {m:Mem} {α:Type} {g:α→List T}:∀ {l:List α} {us:List Value} {F:List Nat},Hg m w (l.map fun a=>T.box (g a)) us F→∃ bs:List Nat,us=bs.map pw
 | [],us,F,h=>by cases h;exact ⟨[],rfl⟩
 | a::l,[],F,h=>by have:=h.len;simp at this
 | a::l,u::us,F,h=>by
  obtain ⟨F1,F2,h1,h2,_⟩:=Hg.uncons (x:=.box (g a)) (xs:=l.map fun a=>T.box (g a)) h
  obtain ⟨bs,rfl⟩:=Qks h2
  obtain ⟨b,_,_,_,rfl,_⟩:=QmZ h1
  exact ⟨b::bs,rfl⟩
theorem Gm.split (hg:Gm C E σ a w) {k kb:Id} {α:Type} {l:List α} {g:α→List T} {e:TypeId} (h1:σ (.r k)=.tree (.row e 1 (l.map fun a=>[.box (g a)]))) (hk:k≠kb∧kb.2≠0) :
  ∃ zs:List (Nat × α),zs.map (·.2)=l∧(∀ i z,zs[i]? = some z→QcB w (E.bv k) i=some (pw z.1))∧∃ E',Gm C E' (Qaf σ (QDz σ k kb (zs.map fun z=>[.sc (pw z.1)]) e (zs.map fun z=>(pw z.1,.box (g z.2))))) a w∧Mo E σ E' (Qaf σ (QDz σ k kb (zs.map fun z=>[.sc (pw z.1)]) e (zs.map fun z=>(pw z.1,.box (g z.2))))):=by
 obtain ⟨hr,_⟩:=hg.tr.hg k _ h1
 obtain ⟨us,F1,c1,c2,c3,c4,c5⟩:=QsN hr
 rw [QfU] at c4
 obtain ⟨bs,rfl⟩:=Qks c4
 have hl:bs.length=l.length:=by have:=c4.len;simpa using this
 have hz2:(bs.zip l).map (·.2)=l:=by rw [←List.unzip_snd,List.unzip_zip hl]
 have hz1:(bs.zip l).map (·.1)=bs:=by rw [←List.unzip_fst,List.unzip_zip hl]
 refine ⟨bs.zip l,hz2,fun i z hz=>?_,?_⟩
 ·have hu:(bs.map pw)[i]? = some (pw z.1):=by rw [←hz1,List.map_map,List.getElem?_map,hz];rfl
  rcases c1.2 with ⟨q1,q2⟩ | ⟨b,cap,cur,q2,_⟩
  ·have:l.length=0:=by simpa using q2
   have:=(List.getElem?_eq_some_iff.1 hu).1
   simp at this
   omega
  ·have:=c1.cells (g:=b) (by rw [q2];rfl) i (pw z.1) hu
   rw [q2]
   simpa [QcB,QaF] using this
 ·have hlen:((bs.zip l).map fun z=>[V.sc (pw z.1)]).length=l.length:=by simp [hl]
  have hflat:((bs.zip l).map fun z=>[V.sc (pw z.1)]).flatten=(bs.map pw).map V.sc:=by
   rw [QfU]
   have:(fun z:Nat × α=>V.sc (pw z.1))=(V.sc ∘ pw) ∘ (·.1):=rfl
   rw [this,←List.map_map,hz1,List.map_map]
  have hrw:Hg E.m w [.rw e 1 ((bs.zip l).map fun z=>[.sc (pw z.1)])] [E.bv k] (E.bv k).ownBlock.toList:=by
   have:=Hg.rw (m:=E.m) (w:=w) (e:=e) (sz:=1) (es:=(bs.zip l).map fun z=>[V.sc (pw z.1)]) (v:=E.bv k) (us:=bs.map pw) (by rw [hlen];simpa using c1) (fun r hr=>by
    obtain ⟨z,_,rfl⟩:=List.mem_map.1 hr
    rfl) (by
    rw [hflat]
    exact ⟨by simp,fun i h1 h2=>by simpa using Rd.sc _⟩) (fun b hb=>⟨(c3 b hb).1,by simp⟩) .nil
   simpa using this
  obtain ⟨E1,g1,m1,e1,e2,e3⟩:=hg.retree k _ (.rw e 1 ((bs.zip l).map fun z=>[.sc (pw z.1)])) _ h1 (fun ys h=>by cases h) (fun y h=>by cases h) (fun ys h=>by cases h) hrw (fun b hb=>.inl ((c5 b).2 (.inl (by simpa using hb))))
  have hbag:Hg E1.m w [.bag ((bs.zip l).map fun z=>(pw z.1,.box (g z.2)))] [.bool false] F1:=by
   rw [e1]
   refine QjC ?_
   rw [List.map_map,List.map_map]
   have q1:((fun p:Value × T=>p.2) ∘ fun z:Nat × α=>(pw z.1,.box (g z.2)))=(fun a=>T.box (g a)) ∘ (·.2):=rfl
   have q2:((fun p:Value × T=>p.1) ∘ fun z:Nat × α=>(pw z.1,.box (g z.2)))=pw ∘ (·.1):=rfl
   rw [q1,q2,←List.map_map,hz2,←List.map_map,hz1]
   exact c4
  obtain ⟨E2,g2,m2,_,_,_,_⟩:=g1.gainTree kb _ _ F1 (fun y h=>by cases h) hbag (fun b hb=>by
   have hin:b∈E.bf k:=(c5 b).2 (.inr hb)
   refine ⟨hg.tr.dd k _ b h1 hin,fun ⟨t,ht⟩=>?_⟩
   rcases e3 t b ht with ⟨q3,q4⟩ | ⟨q3,q4⟩
   ·exact q3 (hg.ho_inj q4 (t':=.r k) ⟨_,h1,hin⟩)
   ·exact (c3 b (by simpa using q4)).2 hb) hk.2
  exact ⟨E2,g2,m1.trans m2⟩
def Qwl (k kb:Id) (e:TypeId) (es:List (List T)):List (Pl × X):=Qg6 kb++[(.r k,.tree (.row e 1 es))]
theorem Gm.join (hg:Gm C E σ a w) {k kb:Id} {ps:List (Value × T)} {es:List (List V)} {e:TypeId} (h1:σ (.r k)=.tree (.rw e 1 es)) (h2:σ (.r kb)=.tree (.bag ps)) (he:es=ps.map fun p=>[.sc p.1]) (hk:k≠kb) :
  (∀ i p,ps[i]? = some p→QcB w (E.bv k) i=some p.1)∧∃ E',Gm C E' (Qaf σ (Qwl k kb e (ps.map fun p=>[p.2]))) a w∧Mo E σ E' (Qaf σ (Qwl k kb e (ps.map fun p=>[p.2])))∧E'.bv=E.bv:=by
 subst he
 obtain ⟨hr,_⟩:=hg.tr.hg k _ h1
 obtain ⟨hb,_⟩:=hg.tr.hg kb _ h2
 obtain ⟨F1,c1,c2,c3⟩:=QgC hb
 have ⟨us,ho,hr2,hz,hm,hF⟩:∃ us,w.ownsRow 0 e 1 (E.bv k) (ps.map fun p=>[V.sc p.1]).length us∧RdL E.m (ps.map fun p=>[V.sc p.1]).flatten us∧True∧(∀ b,(E.bv k).ownBlock=some b→∀ i,E.m b i=none)∧∀ b,b∈E.bf k↔(E.bv k).ownBlock=some b:=by
  generalize E.bv k=v at hr
  generalize E.bf k=F at hr ⊢
  cases hr with
  | rw ho hz hr hm hs=>cases hs;exact ⟨_,ho,hr,trivial,fun b hb=>(hm b hb).1,fun b=>by simp⟩
 have hus:us=ps.map (·.1):=by
  rw [QfU] at hr2
  refine List.ext_getElem (by rw [hr2.1];simp) fun i q1 q2=>?_
  have:=hr2.2 i (by simpa using q2) q1
  simp only [List.getElem_map] at this ⊢
  exact Rd.sc_eq this
 subst hus
 have hd:∀ b,(E.bv k).ownBlock=some b→b∉F1:=fun b q1 q2=>hk (hg.tr.tt k kb _ _ b h1 h2 ((hF b).2 q1) ((c3 b).2 q2))
 refine ⟨fun i p hp=>?_,?_⟩
 ·have hu:(ps.map (·.1))[i]? = some p.1:=by rw [List.getElem?_map,hp];rfl
  rcases ho.2 with ⟨q1,q2⟩ | ⟨b,cap,cur,q2,_⟩
  ·have:ps.length=0:=by simpa using q2
   have:=(List.getElem?_eq_some_iff.1 hp).1
   omega
  ·have:=ho.cells (g:=b) (by rw [q2];rfl) i p.1 hu
   rw [q2]
   simpa [QcB,QaF] using this
 ·obtain ⟨g1,m1,l1⟩:=hg.let_go kb
  have h1':Qaf σ (Qg6 kb) (.r k)=.tree (.rw e 1 (ps.map fun p=>[.sc p.1])):=by simp [Qg6,Qaf,put,hk,h1]
  have hrow:Hg E.m w [.row e 1 (ps.map fun p=>[p.2])] [E.bv k] ((E.bv k).ownBlock.toList++F1):=QxR (us:=ps.map (·.1)) (by simpa using ho) (fun r hr=>by
   obtain ⟨z,_,rfl⟩:=List.mem_map.1 hr
   rfl) (fun b hb=>⟨hm b hb,hd b hb⟩) (by rw [QfU];exact c2)
  obtain ⟨E1,g2,m2,e1,e2,e3⟩:=g1.retree k _ _ _ h1' (fun ys h=>by cases h) (fun y h=>by cases h) (fun ys h=>by cases h) hrow (fun b hb=>by
   rcases List.mem_append.1 hb with h | h
   ·exact .inl ((hF b).2 (by simpa using h))
   ·refine .inr ⟨hg.tr.dd kb _ b h2 ((c3 b).2 h),fun ⟨t,ht⟩=>?_⟩
    obtain ⟨q1,q2⟩:=l1 t b ht
    exact q2 (hg.ho_inj q1 (t':=.r kb) ⟨_,h2,(c3 b).2 h⟩))
  exact ⟨E1,by unfold Qwl;rw [Qal];exact g2,by unfold Qwl;rw [Qal];exact m1.trans m2,e2⟩
end
def QbZ (σ:St) (x:AV):List Nat→Prop
 | []=>True
 | t::ts=>σ (.s t)=.av x∧QbZ σ x ts
attribute [go_sem] QdR QDy QxQ QDz Qwl QcJ QbZ
section
variable {P:Program} {C:Ctx} {σ:St} {Q:Exit→St→Prop}
theorem QfV {n:Nat} {ts:List Nat} (h:(ts.all fun t=>decide (t<n))=true):∀ t∈ts,t<n:=fun t ht=>by simpa using List.all_eq_true.1 h t ht
theorem Qbn {x:AV} {n:Nat}:∀ {ts:List Nat},QbZ σ x ts→(∀ t∈ts,t<n)→QcJ σ x n ts
 | [],_,_=>trivial
 | t::ts,h,hn=>⟨⟨h.1,hn t (List.mem_cons_self ..)⟩,Qbn h.2 fun u hu=>hn u (List.mem_cons_of_mem _ hu)⟩
theorem Qm0 {c:Code} {n:Nat} (hC:C.nt=n) (k:Id) (d i:Nat) (qs ts:List Nat) (u:Value) (ps ps':List (Value × T)) (ys:List T) (hi:ps[i]? = some (u,.box ys)) (hu:ps.set i (u,.av .any)=ps')
  (hn:((d::(qs++ts)).all fun t=>decide (t<n))=true∧(qs.all fun t=>!ts.contains t)=true)
  (h:(σ (.r k)=.tree (.bag ps)∧QbZ σ (.val (.sc u)) ts)∧AW P C c (Qaf σ (QDy σ k (d,0) ps' ys u qs ts)) Q):AW P C c σ Q:=by
 subst hu hC
 obtain ⟨⟨h1,h5⟩,hk⟩:=h
 have hall:=QfV hn.1
 have hd:∀ t∈qs,t∉ts:=fun t ht h=>by
  have:=List.all_eq_true.1 hn.2 t ht
  simp [h] at this
 intro E a w hg
 obtain ⟨E',g⟩:=hg.open (o:=(d,0)) hi h1 ⟨rfl,C.np d (hall d (List.mem_cons_self ..))⟩ (fun t ht=>hall t (by simp [ht])) hd (Qbn h5 fun t ht=>hall t (by simp [ht]))
 exact hk E' a w g
theorem QE0 {c:Code} {n:Nat} (hC:C.nt=n) (k o:Id) (i t0:Nat) (ts:List Nat) (u:Value) (ps ps':List (Value × T)) (y:V) (ys:List T) (hi:ps[i]? = some (u,.av y)) (hu:ps.set i (u,.box ys)=ps') (hn:(ts.all fun t=>decide (t<n))=true)
  (h:(σ (.r k)=.tree (.bag ps)∧σ (.s t0)=.av (.pv u o (gg σ o))∧Qdq σ [o] [o] [ys.map Qb5]∧(Qam σ [o] [ys.map Qb5]).Nodup∧Ho.r k∉Qam σ [o] [ys.map Qb5]∧QbZ σ (.ptr o (gg σ o) 0) ts)∧AW P C c (Qaf σ (QxQ σ k o ps' ys u ts)) Q):AW P C c σ Q:=by
 subst hu hC
 obtain ⟨⟨h1,h2,h3,h4,h5,h6⟩,hk⟩:=h
 intro E a w hg
 obtain ⟨E',g⟩:=hg.close hi h1 h2 h3 h4 h5 (Qbn h6 (QfV hn))
 exact hk E' a w g
theorem QCe {c:Code} {n:Nat} (hC:C.nt=n) (k o:Id) (i:Nat) (ts:List Nat) (ps:List (Value × T)) (ys:List T) (hi:i≤ps.length) (hn:(ts.all fun t=>decide (t<n))=true)
  (h:σ (.r k)=.tree (.bag ps)∧Qdq σ [o] [o] [ys.map Qb5]∧(Qam σ [o] [ys.map Qb5]).Nodup∧Ho.r k∉Qam σ [o] [ys.map Qb5]∧QbZ σ (.ptr o (gg σ o) 0) ts)
  (hk:∀ b,AW P C c (Qaf σ (QxQ σ k o (ps.insertIdx i (pw b,.box ys)) ys (pw b) ts)) Q):AW P C c σ Q:=by
 subst hC
 obtain ⟨h1,h3,h4,h5,h6⟩:=h
 intro E a w hg
 obtain ⟨u,E',g⟩:=hg.bagIn hi h1 h3 h4 h5 (Qbn h6 (QfV hn))
 exact hk u E' a w g
theorem QE1 {c:Code} (k:Id) (i:Nat) (ps ps':List (Value × T)) (hu:ps.eraseIdx i=ps') (h:σ (.r k)=.tree (.bag ps)∧AW P C c (Qaf σ [(.r k,.tree (.bag ps'))]) Q):AW P C c σ Q:=by
 subst hu
 intro E a w hg
 obtain ⟨E',g⟩:=hg.bagOut i h.1
 exact h.2 E' a w g
theorem Qwm {c:Code} {α:Type} (k kb:Id) (l:List α) (g:α→List T) (e:TypeId) (h:σ (.r k)=.tree (.row e 1 (l.map fun a=>[.box (g a)]))∧k≠kb∧kb.2≠0)
  (hk:∀ zs:List (Nat × α),zs.map (·.2)=l→AW P C c (Qaf σ (QDz σ k kb (zs.map fun z=>[.sc (pw z.1)]) e (zs.map fun z=>(pw z.1,.box (g z.2))))) Q):AW P C c σ Q:=by
 intro E a w hg
 obtain ⟨zs,h1,_,E',g',_⟩:=hg.split h.1 h.2
 exact hk zs h1 E' a w g'
theorem QCf {c:Code} (k kb:Id) (e:TypeId) (ps:List (Value × T)) (es:List (List V)) (es':List (List T)) (he:es=ps.map fun p=>[.sc p.1]) (he':(ps.map fun p=>[p.2])=es')
  (h:(σ (.r k)=.tree (.rw e 1 es)∧σ (.r kb)=.tree (.bag ps)∧k≠kb)∧AW P C c (Qaf σ (Qwl k kb e es')) Q):AW P C c σ Q:=by
 subst he'
 obtain ⟨⟨h1,h2,h3⟩,hk⟩:=h
 intro E a w hg
 obtain ⟨_,E',g',_⟩:=hg.join h1 h2 he h3
 exact hk E' a w g'
theorem QCg {c:Code} (k kb o:Id) (i t0:Nat) (u:Value) (x:T) (e:TypeId) (ps:List (Value × T)) (es:List (List V)) (es':List (List T)) (hi:ps[i]? = some (u,x)) (he:es=ps.map fun p=>[.sc p.1]) (he':(ps.map fun p=>[p.2])=es')
  (h:(σ (.r k)=.tree (.rw e 1 es)∧σ (.r kb)=.tree (.bag ps)∧k≠kb∧σ (.s t0)=.av (.pv u o (gg σ o)))∧AW P C c (Qaf σ (Qwl k kb e es'++[(.l k,.lent i (.ptr o (gg σ o) 0))])) Q):AW P C c σ Q:=by
 subst he'
 obtain ⟨⟨h1,h2,h3,h4⟩,hk⟩:=h
 intro E a w hg
 have hu:u=.pointer (some ⟨E.loc o,0,none⟩):=(hg.sl t0 _ h4).2 rfl
 obtain ⟨q,E',g',m',e'⟩:=hg.join h1 h2 he h3
 have hkr:Qaf σ (Qwl k kb e (ps.map fun p=>[p.2])) (.r k)=.tree (.row e 1 (ps.map fun p=>[p.2])):=by
  unfold Qwl;rw [Qal];exact QaZ _ _ _
 have hpt:RdA E σ (.ptr o (gg σ o) 0) u:=⟨Nat.le_refl _,fun _=>hu⟩
 obtain ⟨g2,_⟩:=g'.lend k _ hkr i (.ptr o (gg σ o) 0) ⟨u,by rw [e'];exact q i _ hi,hpt.mo m'⟩
 exact hk E' a w (by rw [Qal];exact g2)
theorem QE2 {c:Code} (k o:Id) (i:Nat) (e:TypeId) (xs:List T) (es es':List (List T)) (y:V) (ys:List T) (hi:xs[i]? = some (.av y)) (he:es=xs.map fun x=>[x]) (hu:((xs.set i (.box ys)).map fun x=>[x])=es')
  (h:(σ (.r k)=.tree (.row e 1 es)∧σ (.l k)=.lent i (.ptr o (gg σ o) 0)∧Qdq σ [o] [o] [ys.map Qb5]∧(Qam σ [o] [ys.map Qb5]).Nodup∧Ho.r k∉Qam σ [o] [ys.map Qb5]) ∧
   AW P C c (Qaf σ (Qa0 σ (Qam σ [o] [ys.map Qb5])++(Qg6 k++[(.r k,.tree (.row e 1 es'))]))) Q):AW P C c σ Q:=by
 subst he hu
 obtain ⟨⟨h1,h2,h3,h4,h5⟩,hk⟩:=h
 intro E a w hg
 obtain ⟨v,r1,r2⟩:=hg.tr.le k _ i _ h1 h2
 have hv:v=.pointer (some ⟨E.loc o,0,none⟩):=r2.2 rfl
 obtain ⟨G,b1,b2,g1,b4⟩:=hg.boxed h3 h4
 generalize Qam σ [o] [ys.map Qb5]=toks at *
 have h1':Qaf σ (Qa0 σ toks) (.r k)=.tree (.row e 1 (xs.map fun x=>[x])):=(Qkr h5).trans h1
 obtain ⟨hr,_⟩:=g1.tr.hg k _ h1'
 obtain ⟨us,F1,c1,c2,c3,c4,c5⟩:=QsN hr
 rw [Qoh] at c4
 have hl:us.length=xs.length:=c4.len
 have hlt:=(List.getElem?_eq_some_iff.1 hi).1
 have hui:us[i]? = some v:=by
  have hx:us[i]? = some (us[i]'(by omega)):=List.getElem?_eq_getElem (by omega)
  rcases c1.2 with ⟨q1,q2⟩ | ⟨b,cap,cur,q2,_⟩
  ·have:xs.length=0:=by simpa using q2
   omega
  ·have:=c1.cells (g:=b) (by rw [q2];rfl) i _ hx
   rw [q2] at r1
   have r1:w.cell? ⟨b,i,none⟩=some v:=by simpa [QcB] using r1
   rw [QaF,Nat.zero_add] at this
   rw [hx,←this,r1]
 obtain ⟨F',q1,q2⟩:=c4.give_any (j:=i) (x:=.box ys) (y:=y) (v:=v) (G:=G) hi hui (by rw [hv];exact b1) (fun b hG hF=>by
  obtain ⟨t,r1,r2⟩:=b2 b hG
  obtain ⟨s1,s2⟩:=b4 (.r k) b ⟨_,h1',(c5 b).2 (.inr hF)⟩
  exact h5 (hg.ho_inj r2 s1 ▸ r1))
 have hG:∀ b∈G,∀ t,¬HoB E (Qaf σ (Qa0 σ toks)) t b:=fun b hG t ht=>by
  obtain ⟨t',r1,r2⟩:=b2 b hG
  obtain ⟨s1,s2⟩:=b4 t b ht
  exact s2 (hg.ho_inj r2 s1 ▸ r1)
 have hrow:Hg E.m w [.row e 1 ((xs.set i (.box ys)).map fun x=>[x])] [E.bv k] ((E.bv k).ownBlock.toList++F'):=QxR (us:=us) (by simpa using c1) (fun r hr=>by
   obtain ⟨z,_,rfl⟩:=List.mem_map.1 hr
   rfl) (fun b hb=>⟨(c3 b hb).1,fun hF=>by
    rcases (q2 b).1 hF with h | h
    ·exact hG b h (.r k) ⟨_,h1',(c5 b).2 (.inl hb)⟩
    ·exact (c3 b hb).2 h⟩) (by rw [Qoh];exact q1)
 obtain ⟨E1,g2,_⟩:=g1.retree k _ _ _ h1' (fun ys h=>by cases h) (fun y h=>by cases h) (fun ys h=>by cases h) hrow (fun b hb=>by
  rcases List.mem_append.1 hb with h | h
  ·exact .inl ((c5 b).2 (.inl (by simpa using h)))
  ·rcases (q2 b).1 h with h | h
   ·obtain ⟨t,r1,r2⟩:=b2 b h
    exact .inr ⟨(hg.ho_dd r2).2,fun ⟨t',ht'⟩=>hG b h t' ht'⟩
   ·exact .inl ((c5 b).2 (.inr h)))
 have q:∀ (σ0:St) (l:Pl),Qaf σ0 (Qg6 k++[(.r k,.tree (.row e 1 ((xs.set i (.box ys)).map fun x=>[x])))]) l=if l=.r k then .tree (.row e 1 ((xs.set i (.box ys)).map fun x=>[x])) else if l=.l k then .non else σ0 l:=fun σ0 l=>by
  show put (put (put σ0 (.l k) _) (.r k) _) (.r k) _ l=_
  unfold put
  by_cases e1:l=.r k
  ·simp [e1]
  ·simp [e1]
 refine hk E1 a w ?_
 rw [Qal]
 refine (g2.drop _ (fun t=>?_) (fun o i=>?_) (fun o=>?_) (fun o n h=>?_) (fun k e sz T h=>?_) (fun k=>.inl ?_) (fun k' x h=>?_) (fun k' i y h=>?_) (fun k=>?_) (fun o k g s h=>?_)).1
 all_goals first | (rw [q,Qag _ _ (by simp)];simp;done) | skip
 ·rw [q] at h;rw [Qag _ _ (by simp)];simpa using h
 ·rw [q] at h;rw [Qag _ _ (by simp)];simpa using h
 ·rw [q] at h
  by_cases e1:k'=k
  ·subst e1;rw [QaZ];simpa using h
  ·rw [Qag _ _ (by simpa using e1)];simpa [e1] using h
 ·rw [q] at h
  rw [Qag _ _ (by simp)]
  by_cases e1:k'=k
  ·subst e1;simp at h
  ·simpa [e1] using h
 ·rw [q] at h;rw [Qag _ _ (by simp)];simpa using h
end
end Go.Proofs.YthfocmakkeonoaaGreatDoor
namespace Go.Proofs.YthfocmakkeonoaaGreatDoor
open Go.RowKit
section
variable {P:Program} {ops:Array Oper} {C:Ctx} {E:Env} {σ:St} {a:Act} {w:World} {md:Bool} {K:St→List FP→Prop} {acc:List FP} {rest:List Oper}
def QCh (σ:St):List AV→Prop
 | []=>True
 | x::xs=>Qvh σ x∧QCh σ xs
def QxS:List AV→List Pl
 | []=>[]
 | x::xs=>Qhi x++QxS xs
theorem Qzu {d:Option Tmp} {op:Op} {ty:TypeId} {pos:String} {af:Array Edge} {c:Prop} {L:List Pl} {W:List (Pl × X)} (hs:Qa8 P σ d op=some (c,L,W)) (hc:c) (k:Run P ops C md K rest (Qaf σ W) ((L,QcP W)::acc)) :
 Run P ops C md K (⟨d,op,ty,pos,af,none⟩::rest) σ acc:=QaQ (Qkf d op c L W hs hc ops ty pos af) k
attribute [go_sem] QCh QxS
end
section
variable {P:Program} {C:Ctx} {σ:St} {Q:Exit→St→Prop}
end
end Go.Proofs.YthfocmakkeonoaaGreatDoor
