/- The step of a call. The step of a call is sound. What is owned whole is turned. -/
import Derived.Test.YthfocmakkeonoaaGreatDoorR9z
set_option linter.unusedVariables false
set_option linter.unusedSimpArgs false
set_option maxRecDepth 100000
set_option maxHeartbeats 16000000
namespace Go.Proofs.YthfocmakkeonoaaGreatDoor
open Go.RowKit
section
variable {P:Program} {ops:Array Oper} {C:Ctx} {E:Env} {σ:St} {a:Act} {w:World}
theorem Qdb (σ:St) (o:Id):∀ (n i:Nat),(Qb6 σ o i n).length=n
 | 0,_=>rfl
 | n+1,i=>by simp [Qb6,Qdb σ o n (i+1)]
theorem QhW (σ:St) (o:Id):∀ (n i j:Nat),j<n→(Qb6 σ o i n)[j]? = some (Qbj σ o (i+j))
 | n+1,i,0,h=>rfl
 | n+1,i,j+1,h=>by
  show (Qb6 σ o (i+1) n)[j]? = _
  rw [QhW σ o n (i+1) j (by omega),show i+(j+1)=i+1+j by omega]
theorem Qj6 {E:Env} {σ:St}:∀ {xs:List AV} {vs:List Value},vs.length=xs.length→(∀ (j:Nat) (x:AV) (v:Value),xs[j]? = some x→vs[j]? = some v→RdA E σ x v)→AllA E σ xs vs
 | [],[],_,_=>trivial
 | x::xs,v::vs,hl,h=>⟨h 0 x v rfl rfl,Qj6 (by simpa using hl) fun j y u h1 h2=>h (j+1) y u (by simpa using h1) (by simpa using h2)⟩
 | [],_::_,hl,_=>by simp at hl
 | _::_,[],hl,_=>by simp at hl
theorem QnY (hg:Gm C E σ a w) {all ids:List Id} {objs:List (List CA)} {ts:List Ho} (h:MObjs σ all ids objs ts):ts.Nodup→objs.length=ids.length∧∃ G,ObjsOk E.m w (all.map E.loc) (ids.map E.loc) objs G∧∀ b∈G,∃ t∈ts,HoB E σ t b:=by
 induction h with
 | nil=>intro _;exact ⟨rfl,[],.nil,fun b h=>by cases h⟩
 | @cons o ids cs objs ts ts' ho hc _ ih=>
  intro hn
  obtain ⟨hn0,hn⟩:=List.nodup_cons.1 hn
  obtain ⟨hn1,hn2,hn3⟩:=List.nodup_append.1 hn
  obtain ⟨i1,G,i2,i3⟩:=ih hn2
  obtain ⟨⟨ca,ty,hb,hsz⟩,hm0,_⟩:=hg.ob o _ ho
  have hvl:ca.toList.length=(Qb6 σ o 0 cs.length).length:=by rw [Qdb];simpa using hsz
  obtain ⟨F,m1,m2⟩:=QnX hg hc ca.toList (Qj6 hvl (fun j x v q1 q2=>by
   have hj:j<cs.length:=by have:=(List.getElem?_eq_some_iff.1 q1).1;rwa [Qdb] at this
   rw [QhW _ _ _ _ _ hj,Nat.zero_add] at q1
   cases q1
   obtain ⟨u,hu,hr⟩:=Qdk hg ho hj
   rw [cell_of_row _ _ _ _ _ _ hb] at hu
   have:v=u:=by
    have e:ca.toList[j]? = ca[j]?:=by rw [Array.getElem?_toList]
    rw [e,hu] at q2;exact (Option.some.inj q2).symm
   subst this
   exact hr)) hn1
  have ho':HoB E σ (.o o) (E.loc o):=⟨_,ho,rfl⟩
  refine ⟨by simp [i1],_,ObjsOk.cons (vs:=ca.toList) (ty:=ty) (by simpa using hb) hm0 m1 (fun hF=>?_) i2 (fun b hb1 hb2=>?_),fun b hb=>?_⟩
  ·obtain ⟨t,ht,hh⟩:=m2 _ hF
   have:=hg.ho_inj ho' hh
   subst this
   exact hn0 (List.mem_append_left _ ht)
  ·obtain ⟨t',ht',hh'⟩:=i3 b hb2
   rcases List.mem_cons.1 hb1 with rfl | hb1
   ·have:=hg.ho_inj ho' hh'
    subst this
    exact hn0 (List.mem_append_right _ ht')
   ·obtain ⟨t,ht,hh⟩:=m2 b hb1
    have:=hg.ho_inj hh hh'
    subst this
    exact hn3 _ ht _ ht' rfl
  ·rcases List.mem_append.1 hb with hb | hb
   ·rcases List.mem_cons.1 hb with rfl | hb
    ·exact ⟨_,by simp,ho'⟩
    ·obtain ⟨t,ht,hh⟩:=m2 b hb
     exact ⟨t,by simp [ht],hh⟩
   ·obtain ⟨t,ht,hh⟩:=i3 b hb
    exact ⟨t,by simp [ht],hh⟩
def QbC:List Ho→List Pl
 | []=>[]
 | .o o::ts=>.o o::QbC ts
 | .k k::ts=>.q k :: .k k::QbC ts
 | .r k::ts=>.h k :: .g k :: .r k :: .l k::QbC ts
theorem Qjs {σ':St} {ids:List Id} (hids:∀ o∈ids,σ' (.g o)=σ (.g o)):∀ {zs:List AV} {cs:List FC},QA0 σ ids zs cs→QA0 σ' ids zs cs
 | [],[],_=>trivial
 | z::zs,c::cs,h=>by
  refine ⟨?_,Qjs hids h.2⟩
  have h1:=h.1
  cases z with
  | val x=>cases c <;> exact h1
  | ptr o g off=>
   cases c with
   | val x'=>exact h1.elim
   | ptr i off'=>
    obtain ⟨e1,e2,e3⟩:=h1
    exact ⟨e1,by rw [Qaz (hids o (List.mem_of_getElem? e1))];exact e2,e3⟩
  | _=>cases c <;> exact h1.elim
 | [],_::_,h=>h.elim
 | _::_,[],h=>h.elim
theorem MArgs.congr {σ':St} {ids:List Id} {xs:List AV} {args:List Arg} {ts:List Ho} (h:MArgs σ ids xs args ts):(∀ l∈QbC ts,σ' l=σ l)→(∀ o∈ids,σ' (.g o)=σ (.g o))→MArgs σ' ids xs args ts:=by
 induction h with
 | nil=>intro _ _;exact .nil
 | val h _ ih=>intro h1 h2;exact .val h (ih h1 h2)
 | own hq hk _ ih=>intro h1 h2;exact .own (by rw [Qda (h1 _ (by simp [QbC]))];exact hq) (by rw [h1 _ (by simp [QbC])];exact hk) (ih (fun l hl=>h1 l (by simp [QbC,hl])) h2)
 | nown _ ih=>intro h1 h2;exact .nown (ih h1 h2)
 | ptr hi hg _ ih=>intro h1 h2;exact .ptr hi (by rw [Qaz (h2 _ (List.mem_of_getElem? hi))];exact hg) (ih h1 h2)
 | fn h _ ih=>intro h1 h2;exact .fn (Qjs h2 h) (ih h1 h2)
 | fn0 _ ih=>intro h1 h2;exact .fn0 (ih h1 h2)
 | hd hh hk _ ih=>intro h1 h2;exact .hd (by rw [QaL (h1 _ (by simp [QbC]))];exact hh) (by rw [h1 _ (by simp [QbC])];exact hk) (ih (fun l hl=>h1 l (by simp [QbC,hl])) h2)
 | hdb hh hk _ ih=>intro h1 h2;exact .hdb (by rw [Qaz (h1 _ (by simp [QbC]))];exact hh) (by rw [h1 _ (by simp [QbC])];exact hk) (ih (fun l hl=>h1 l (by simp [QbC,hl])) h2)
 | nhd _ ih=>intro h1 h2;exact .nhd (ih h1 h2)
 | nhw _ ih=>intro h1 h2;exact .nhw (ih h1 h2)
 | hdl hh hk hl hi hg _ ih=>intro h1 h2;exact .hdl (by rw [QaL (h1 _ (by simp [QbC]))];exact hh) (by rw [h1 _ (by simp [QbC])];exact hk) (by rw [h1 _ (by simp [QbC])];exact hl) hi (by rw [Qaz (h2 _ (List.mem_of_getElem? hi))];exact hg) (ih (fun l hl=>h1 l (by simp [QbC,hl])) h2)
theorem QfA {σ':St} {o:Id}:∀ {n i:Nat},(∀ l∈QeT o i n,σ' l=σ l)→Qb6 σ' o i n=Qb6 σ o i n
 | 0,_,_=>rfl
 | n+1,i,h=>by
  simp only [Qb6]
  rw [Qc3 (h _ (by simp [QeT])),QfA fun l hl=>h l (by simp [QeT,hl])]
def Qj7:List Id→List (List CA)→List Pl
 | o::ids,cs::objs=>.g o :: .o o::(QeT o 0 cs.length++Qj7 ids objs)
 | _,_=>[]
theorem Qbx:∀ (a b:List Ho),QbC (a++b)=QbC a++QbC b
 | [],_=>rfl
 | .o o::a,b=>by simp [QbC,Qbx a b]
 | .k o::a,b=>by simp [QbC,Qbx a b]
 | .r o::a,b=>by simp [QbC,Qbx a b]
theorem MObjs.congr {σ':St} {all ids:List Id} {objs:List (List CA)} {ts:List Ho} (h:MObjs σ all ids objs ts):(∀ l∈QbC ts,σ' l=σ l)→(∀ o∈all,σ' (.g o)=σ (.g o))→(∀ l∈Qj7 ids objs,σ' l=σ l)→MObjs σ' all ids objs ts:=by
 induction h with
 | nil=>intro _ _ _;exact .nil
 | cons ho hc _ ih=>
  intro h1 h2 h3
  refine .cons (by rw [h1 _ (by simp [QbC])];exact ho) ?_ (ih (fun l hl=>h1 l (by simp [QbC,Qbx,hl])) h2 (fun l hl=>h3 l (by simp [Qj7,hl])))
  rw [QfA fun l hl=>h3 l (by simp [Qj7,hl])]
  exact hc.congr (fun l hl=>h1 l (by simp [QbC,Qbx,hl])) h2
theorem QaO {σ σ':St} {W:List (Pl × X)} {l:Pl} (h:σ' l=σ l):Qaf σ' W l=Qaf σ W l:=QhL _ _ _ _ (.inr h)
def Qlc (k:Id):CA→List Pl
 | .val _=>[]
 | .own _ _ _=>[.q k]
 | _=>[.h k,.g k]
def Qld (o:Id):Nat→List CA→List Pl
 | _,[]=>[]
 | j,c::cs=>Qlc (kid o j) c++Qld o (j+1) cs
theorem QmC {σ':St} {all:List Id} {k:Id} {c:CA} (h:∀ l∈Qlc k c,σ' l=σ l) (hall:∀ o∈all,σ' (.g o)=σ (.g o)):QdB σ' all k c=QdB σ all k c∧Qfz σ' k c=Qfz σ k c:=by
 cases c with
 | val x=>exact ⟨rfl,rfl⟩
 | own e sz es=>simp only [QdB,Qfz,Qda (h (.q k) (by simp [Qlc]))];exact ⟨trivial,trivial⟩
 | hd x=>
  have h1:=QaL (h (.h k) (by simp [Qlc]))
  have h2:=Qaz (h (.g k) (by simp [Qlc]))
  refine ⟨by simp only [QdB,QaA,h1,h2],?_⟩
  cases x <;> simp only [Qfz,QeV,h1,h2]
 | hdl x i ob=>
  have h1:=QaL (h (.h k) (by simp [Qlc]))
  have h2:=Qaz (h (.g k) (by simp [Qlc]))
  refine ⟨?_,?_⟩
  ·simp only [QdB,QaA,Qvo,h1,h2]
   cases ho:all[ob]? with
   | none=>rfl
   | some o'=>simp only [Qaz (hall o' (List.mem_of_getElem? ho))]
  ·cases x <;> simp only [Qfz,QeV,h1,h2]
theorem QhX (all:List Id) (o:Id):∀ (cs:List CA) (σ σ':St) (j:Nat),(∀ l∈Qld o j cs,σ' l=σ l)→(∀ o∈all,σ' (.g o)=σ (.g o))→Qcl σ' all o j cs=Qcl σ all o j cs
 | [],_,_,_,_,_=>rfl
 | c::cs,σ,σ',j,h,hall=>by
  obtain ⟨h1,h2⟩:=QmC (σ:=σ) (σ':=σ') (all:=all) (k:=kid o j) (c:=c) (fun l hl=>h l (by simp [Qld,hl])) hall
  simp only [Qcl,h1,h2]
  rw [QhX all o cs (Qaf σ (QdB σ all (kid o j) c)) (Qaf σ' (QdB σ all (kid o j) c)) (j+1) (fun l hl=>QaO (h l (by simp [Qld,hl]))) (fun o' ho=>QaO (hall o' ho))]
theorem QfB {σ':St} {all:List Id} {o:Id} {G:Nat} {cs:List CA} (h:∀ l∈Qld o 0 cs,σ' l=σ l) (hall:∀ o∈all,σ' (.g o)=σ (.g o)):QaT σ' all o G cs=QaT σ all o G cs:=by
 unfold QaT
 rw [QhX all o cs σ σ' 0 h hall]
def QmD:List Id→List (List CA)→List Pl
 | o::ids,cs::objs=>.g o::(Qld o 0 cs++QmD ids objs)
 | _,_=>[]
theorem QhY (all:List Id):∀ (ids:List Id) (objs:List (List CA)) (σ σ':St),(∀ l∈QmD ids objs,σ' l=σ l)→(∀ o∈all,σ' (.g o)=σ (.g o))→QcH all σ' ids objs=QcH all σ ids objs
 | o::ids,cs::objs,σ,σ',h,hall=>by
  have h1:QaT σ' all o (gg σ' o) cs=QaT σ all o (gg σ o) cs:=by
   rw [Qaz (h (.g o) (by simp [QmD]))]
   exact QfB (fun l hl=>h l (by simp [QmD,hl])) hall
  simp only [QcH,h1]
  rw [QhY all ids objs (Qaf σ (QaT σ all o (gg σ o) cs)) (Qaf σ' (QaT σ all o (gg σ o) cs)) (fun l hl=>QaO (h l (by simp [QmD,hl]))) (fun o' ho=>QaO (hall o' ho))]
 | [],[],_,_,_,_=>rfl
 | [],_::_,_,_,_,_=>rfl
 | _::_,[],_,_,_,_=>rfl
theorem QhZ {σ':St}:∀ {ts:List Ho},(∀ l∈QbC ts,σ' l=σ l)→Qa0 σ' ts=Qa0 σ ts
 | [],_=>rfl
 | t::ts,h=>by
  have ih:Qa0 σ' ts=Qa0 σ ts:=QhZ fun l hl=>h l (by cases t <;> simp [QbC,hl])
  unfold Qa0 at ih ⊢
  rw [List.flatMap_cons,List.flatMap_cons,ih]
  congr 1
  cases t with
  | o i=>rfl
  | k k=>simp only [Qbd,Qda (h (.q k) (by simp [QbC]))]
  | r k=>rfl
def Qa6 (d:Tmp):List (List CA)→List Id
 | []=>[]
 | _::_=>[(d,0)]
def QgY (σ:St) (ids:List Id) (d:Tmp):List (List CA)→List (Pl × X)
 | []=>[]
 | cs::_=>QaT σ ids (d,0) (gg σ (d,0)+1) cs
def Qry (d:Tmp):List (List CA)→List Pl
 | []=>[]
 | cs::_=>Qld (d,0) 0 cs
def Qle (d:Tmp):List (List CA)→List Id
 | []=>[]
 | cs::_=>QbE (d,0) 0 cs
def QgZ (σ:St) (d:Tmp):Arg→List (Pl × X)
 | .ca (.own e sz es)=>[(.q (d,0),.num (gq σ (d,0)+1)),(.k (d,0),.row e sz es.length)]
 | .ca (.hd x)=>QaA σ (d,1) x
 | _=>[]
def QfC (σ2:St) (d:Tmp) (ids:List Id) (i off:Nat):AV:=match ids[i]? with | some o=>.ptr o (gg σ2 o) off | none=>.ptr (d,0) (gg σ2 (d,0)) off
def QBr (σ2:St) (d:Tmp) (ids:List Id):FC→AV
 | .val x=>.val x
 | .ptr i off=>QfC σ2 d ids i off
def Qj8 (σ2 σ:St) (d:Tmp) (ids:List Id):Arg→AV
 | .ca (.val y)=>.val y
 | .ca (.own e sz es)=>.own (d,0) (gq σ (d,0)+1) e sz es
 | .ca (.hd x)=>QeV σ (d,1) x
 | .ca (.hdl _ _ _)=>.val .any
 | .ptr i off=>QfC σ2 d ids i off
 | .fn K cs=>.fn K (cs.map (QBr σ2 d ids))
def Qi8 (σ:St) (d:Tmp) (ids:List Id) (ts:List Ho) (objs':List (List CA)):List (Pl × X):=
 let W1:=Qa0 σ ts
 let W2:=QgY (Qaf σ W1) ids d (objs'.drop ids.length)
 W1++(W2++QcH (ids++Qa6 d (objs'.drop ids.length)) (Qaf (Qaf σ W1) W2) ids objs')
def QbY (σ:St) (d:Tmp) (ids:List Id) (ts:List Ho) (objs':List (List CA)) (res:Arg):List (Pl × X):=
 Qi8 σ d ids ts objs'++(QgZ (Qaf σ (Qi8 σ d ids ts objs')) d res++[(.s d,.av (Qj8 (Qaf σ (Qi8 σ d ids ts objs')) (Qaf σ (Qi8 σ d ids ts objs')) d ids res))])
def QcC:List Operand→List Pl
 | []=>[]
 | x::xs=>rdl x++QcC xs
def QeN (d:Tmp) (xs:List Operand) (ids:List Id) (ts:List Ho) (objs objs':List (List CA)):List Pl:=
 QcC xs++(QbC ts++(Qj7 ids objs++(QmD ids objs'++(Qry d (objs'.drop ids.length)++[.g (d,0),.q (d,0),.h (d,1),.g (d,1)]))))
theorem Qh0:∀ {ids:List Id} {objs:List (List CA)} {o:Id},ids.length≤objs.length→o∈ids→Pl.g o∈Qj7 ids objs
 | o'::ids,cs::objs,o,hl,h=>by
  rcases List.mem_cons.1 h with rfl | h
  ·simp [Qj7]
  ·have:=Qh0 (ids:=ids) (objs:=objs) (by simpa using hl) h;simp [Qj7,this]
 | [],_,o,_,h=>by cases h
 | o'::ids,[],o,hl,_=>by simp at hl
theorem Qlf {σ':St} {ids:List Id} {d:Tmp} {l:List (List CA)} (h:∀ x∈Qry d l,σ' x=σ x) (hall:∀ o∈ids,σ' (.g o)=σ (.g o)) (hg:σ' (.g (d,0))=σ (.g (d,0))):QgY σ' ids d l=QgY σ ids d l:=by
 cases l with
 | nil=>rfl
 | cons cs l=>simp only [QgY,Qaz hg];exact QfB h hall
theorem QmE {σ':St} {d:Tmp} {xs:List Operand} {ids:List Id} {ts:List Ho} {objs objs':List (List CA)} {res:Arg} (hl:ids.length≤objs.length) (h:∀ l∈QeN d xs ids ts objs objs',σ' l=σ l):QbY σ' d ids ts objs' res=QbY σ d ids ts objs' res:=by
 obtain ⟨_,h⟩:=Qaq h
 obtain ⟨h1,h⟩:=Qaq h
 obtain ⟨h2,h⟩:=Qaq h
 obtain ⟨h3,h⟩:=Qaq h
 obtain ⟨h4,h5⟩:=Qaq h
 have hids:∀ o∈ids,σ' (.g o)=σ (.g o):=fun o ho=>h2 _ (Qh0 hl ho)
 have e1:Qa0 σ' ts=Qa0 σ ts:=QhZ h1
 have e2:QgY (Qaf σ' (Qa0 σ ts)) ids d (objs'.drop ids.length)=QgY (Qaf σ (Qa0 σ ts)) ids d (objs'.drop ids.length):=
  Qlf (fun x hx=>QaO (h4 x hx)) (fun o ho=>QaO (hids o ho)) (QaO (h5 _ (by simp)))
 have hall:∀ o∈ids++Qa6 d (objs'.drop ids.length),σ' (.g o)=σ (.g o):=fun o ho=>by
  rcases List.mem_append.1 ho with ho | ho
  ·exact hids o ho
  ·cases hd:objs'.drop ids.length with
   | nil=>rw [hd] at ho;cases ho
   | cons cs l=>rw [hd] at ho;simp [Qa6] at ho;subst ho;exact h5 _ (by simp)
 have e3:∀ W2,QcH (ids++Qa6 d (objs'.drop ids.length)) (Qaf (Qaf σ' (Qa0 σ ts)) W2) ids objs'=QcH (ids++Qa6 d (objs'.drop ids.length)) (Qaf (Qaf σ (Qa0 σ ts)) W2) ids objs':=fun W2=>
  QhY _ _ _ _ _ (fun l hl=>QaO (QaO (h3 l hl))) (fun o ho=>QaO (QaO (hall o ho)))
 have e4:Qi8 σ' d ids ts objs'=Qi8 σ d ids ts objs':=by simp only [Qi8,e1,e2,e3]
 have hq:∀ W,gq (Qaf σ' W) (d,0)=gq (Qaf σ W) (d,0):=fun W=>Qda (QaO (h5 _ (by simp)))
 have hg:∀ W,gg (Qaf σ' W) (d,0)=gg (Qaf σ W) (d,0):=fun W=>Qaz (QaO (h5 _ (by simp)))
 have hg1:∀ W,gg (Qaf σ' W) (d,1)=gg (Qaf σ W) (d,1):=fun W=>Qaz (QaO (h5 _ (by simp)))
 have hh1:∀ W,gh (Qaf σ' W) (d,1)=gh (Qaf σ W) (d,1):=fun W=>QaL (QaO (h5 _ (by simp)))
 have e5:∀ W,QgZ (Qaf σ' W) d res=QgZ (Qaf σ W) d res:=fun W=>by
  unfold QgZ
  split
  ·rw [hq]
  ·unfold QaA;rw [hg1,hh1]
  ·rfl
 have ep:∀ W i off,QfC (Qaf σ' W) d ids i off=QfC (Qaf σ W) d ids i off:=fun W i off=>by
  unfold QfC
  split
  ·rename_i o ho;rw [Qaz (QaO (hids o (List.mem_of_getElem? ho)))]
  ·rw [hg]
 have e6:∀ W,Qj8 (Qaf σ' W) (Qaf σ' W) d ids res=Qj8 (Qaf σ W) (Qaf σ W) d ids res:=fun W=>by
  unfold Qj8
  split
  ·rfl
  ·rw [hq]
  ·rename_i x;cases x <;> simp only [QeV,hg1,hh1]
  ·rfl
  ·exact ep W _ _
  ·congr 1
   apply List.map_congr_left
   intro c _
   cases c with
   | val=>rfl
   | ptr i off=>exact ep W i off
 simp only [QbY,e4,e5,e6]
end
end Go.Proofs.YthfocmakkeonoaaGreatDoor
namespace Go.Proofs.YthfocmakkeonoaaGreatDoor
open Go.RowKit
section
variable {P:Program} {ops:Array Oper} {C:Ctx} {E:Env} {σ:St} {a:Act} {w:World}
theorem QfD {σ':St}:∀ {xs:List Operand},(∀ l∈QcC xs,σ' l=σ l)→xs.map (ev σ')=xs.map (ev σ)
 | [],_=>rfl
 | x::xs,h=>by
  simp only [List.map_cons]
  rw [Qae fun l hl=>h l (by simp [QcC,hl]),QfD fun l hl=>h l (by simp [QcC,hl])]
theorem QfE {ts:List Ho} {l:Pl} {x:X} (h:(l,x)∈Qa0 σ ts):∃ t∈ts,(l,x)∈Qbd σ t:=by
 obtain ⟨t,h1,h2⟩:=List.mem_flatMap.1 h
 exact ⟨t,h1,h2⟩
theorem Qj9 (ts:List Ho):(∀ t,Qaf σ (Qa0 σ ts) (.s t)=σ (.s t))∧(∀ o i,Qaf σ (Qa0 σ ts) (.c o i)=σ (.c o i))∧(∀ o,Qaf σ (Qa0 σ ts) (.g o)=σ (.g o))∧(∀ o,Qaf σ (Qa0 σ ts) (.h o)=σ (.h o))∧(∀ o,Qaf σ (Qa0 σ ts) (.l o)=σ (.l o)) ∧
  (∀ o n,Qaf σ (Qa0 σ ts) (.o o)=.num n→σ (.o o)=.num n∧.o o∉ts)∧(∀ k e sz T,Qaf σ (Qa0 σ ts) (.k k)=.row e sz T→σ (.k k)=.row e sz T∧.k k∉ts)∧(∀ k x,Qaf σ (Qa0 σ ts) (.r k)=.tree x→σ (.r k)=.tree x∧.r k∉ts) ∧
  (∀ k,Qaf σ (Qa0 σ ts) (.q k)=σ (.q k)∨gq σ k<gq (Qaf σ (Qa0 σ ts)) k):=by
 have hout:∀ l,(∀ t∈ts,∀ x,(l,x)∉Qbd σ t)→Qaf σ (Qa0 σ ts) l=σ l:=fun l h=>Qcd _ _ _ fun hl=>by
  obtain ⟨p,hp,rfl⟩:=List.mem_map.1 hl
  obtain ⟨t,h1,h2⟩:=QfE hp
  exact h t h1 _ h2
 have hin:∀ l t y,t∈ts→(l,y)∈Qbd σ t→∃ t' x,t'∈ts∧(l,x)∈Qbd σ t'∧Qaf σ (Qa0 σ ts) l=x:=fun l t y h1 h2=>by
  have hl:l∈QcP (Qa0 σ ts):=List.mem_map.2 ⟨(l,y),List.mem_flatMap.2 ⟨t,h1,h2⟩,rfl⟩
  obtain ⟨x,h3,h4⟩:=Qj4 _ σ _ hl
  obtain ⟨t',h5,h6⟩:=QfE h3
  exact ⟨t',x,h5,h6,h4⟩
 refine ⟨fun t=>hout _ fun t _ x h=>?_,fun o i=>hout _ fun t _ x h=>?_,fun o=>hout _ fun t _ x h=>?_,fun o=>hout _ fun t _ x h=>?_,fun o=>hout _ fun t _ x h=>?_,fun o n h=>?_,fun k e sz T h=>?_,fun k x h=>?_,fun k=>?_⟩
 ·cases t <;> simp [Qbd] at h
 ·cases t <;> simp [Qbd] at h
 ·cases t <;> simp [Qbd] at h
 ·cases t <;> simp [Qbd] at h
 ·cases t <;> simp [Qbd] at h
 ·have hno:.o o∉ts:=fun ht=>by
   obtain ⟨t',x,h1,h2,h3⟩:=hin (.o o) (.o o) .non ht (by simp [Qbd])
   rw [h] at h3
   subst h3
   cases t' <;> simp [Qbd] at h2
  refine ⟨?_,hno⟩
  rw [←h]
  refine (hout _ fun t ht x hx=>?_).symm
  cases t <;> simp [Qbd] at hx
  rw [hx.1] at hno
  exact hno ht
 ·have hno:.k k∉ts:=fun ht=>by
   obtain ⟨t',x,h1,h2,h3⟩:=hin (.k k) (.k k) .non ht (by simp [Qbd])
   rw [h] at h3
   subst h3
   cases t' <;> simp [Qbd] at h2
  refine ⟨?_,hno⟩
  rw [←h]
  refine (hout _ fun t ht x hx=>?_).symm
  cases t <;> simp [Qbd] at hx
  rw [hx.1] at hno
  exact hno ht
 ·have hno:.r k∉ts:=fun ht=>by
   obtain ⟨t',y,h1,h2,h3⟩:=hin (.r k) (.r k) .non ht (by simp [Qbd])
   rw [h] at h3
   subst h3
   cases t' <;> simp [Qbd] at h2
  refine ⟨?_,hno⟩
  rw [←h]
  refine (hout _ fun t ht x hx=>?_).symm
  cases t <;> simp [Qbd] at hx
  rw [hx.1] at hno
  exact hno ht
 ·by_cases ht:Ho.k k∈ts
  ·obtain ⟨t',x,h1,h2,h3⟩:=hin (.q k) (.k k) _ ht (by simp [Qbd];rfl)
   right
   cases t' <;> simp [Qbd] at h2
   obtain ⟨rfl,h2⟩:=h2
   rw [Qk1 (h3.trans h2)]
   omega
  ·refine .inl (hout _ fun t ht' x hx=>?_)
   cases t <;> simp [Qbd] at hx
   rw [hx.1] at ht
   exact ht ht'
theorem Qlg (ts:List Ho) (o k:Id) (g:Nat) (s:List Nat) (h:Qaf σ (Qa0 σ ts) (.o o)=.itr k g s):σ (.o o)=.itr k g s:=by
 by_cases hl:Pl.o o∈QcP (Qa0 σ ts)
 ·obtain ⟨x,h3,h4⟩:=Qj4 _ σ _ hl
  obtain ⟨t,_,h5⟩:=QfE h3
  rw [h] at h4
  subst h4
  cases t <;> simp [Qbd] at h5
 ·rw [Qcd _ _ _ hl] at h;exact h
theorem ObjsOk.split {m:Mem} {bs:List Nat}:∀ (n:Nat) {bs':List Nat} {objs:List (List CA)} {G:List Nat},ObjsOk m w bs bs' objs G→∃ G1 G2,ObjsOk m w bs (bs'.take n) (objs.take n) G1∧ObjsOk m w bs (bs'.drop n) (objs.drop n) G2∧(∀ b∈G1,b∉G2)∧(∀ b,b∈G1∨b∈G2→b∈G)
 | 0,bs',objs,G,h=>⟨[],G,by simpa using ObjsOk.nil,by simpa using h,(fun b h=>by cases h),(fun b h=>by simpa using h)⟩
 | n+1,_,_,_,.nil=>⟨[],[],by simpa using ObjsOk.nil,by simpa using ObjsOk.nil,(fun b h=>by cases h),(fun b h=>by simp at h)⟩
 | n+1,_,_,_,.cons hb hm h hn hs hd=>by
  obtain ⟨G1,G2,h1,h2,h3,h4⟩:=ObjsOk.split n hs
  refine ⟨_,G2,.cons hb hm h hn h1 (fun i hi hi'=>hd i hi (h4 i (.inl hi'))),h2,fun b hb1 hb2=>?_,fun b hb=>?_⟩
  ·rcases List.mem_append.1 hb1 with h5 | h5
   ·exact hd b h5 (h4 b (.inr hb2))
   ·exact h3 b h5 hb2
  ·rcases hb with hb | hb
   ·rcases List.mem_append.1 hb with h5 | h5
    ·exact List.mem_append_left _ h5
    ·exact List.mem_append_right _ (h4 b (.inl h5))
   ·exact List.mem_append_right _ (h4 b (.inr hb))
theorem QnZ (hg:Gm C E σ a w) {ids:List Id} {xs:List AV} {args:List Arg} {objs:List (List CA)} {ts1 ts2:List Ho} (h1:MArgs σ ids xs args ts1) (h2:MObjs σ ids ids objs ts2) (vals:List Value) (hvl:vals.length=xs.length)
  (hvr:∀ (j:Nat) (x:AV) (v:Value),xs[j]? = some x→vals[j]? = some v→RdA E σ x v) (hn:(ts1++ts2).Nodup) :
  objs.length=ids.length∧∃ F G,Holds E.m w vals args objs (ids.map E.loc) F G∧∀ b∈F++G,∃ t∈ts1++ts2,HoB E σ t b:=by
 obtain ⟨hn1,hn2,hn3⟩:=List.nodup_append.1 hn
 obtain ⟨o1,G,o2,o3⟩:=QnY hg h2 hn2
 obtain ⟨F,a1,a2⟩:=QnX hg h1 vals (Qj6 hvl hvr) hn1
 refine ⟨o1,F,G,⟨hg.ms,a1,o2,fun b hF hG=>?_⟩,fun b hb=>?_⟩
 ·obtain ⟨t,ht,hh⟩:=a2 b hF
  obtain ⟨t',ht',hh'⟩:=o3 b hG
  have:=hg.ho_inj hh hh'
  subst this
  exact hn3 _ ht _ ht' rfl
 ·rcases List.mem_append.1 hb with hb | hb
  ·obtain ⟨t,ht,hh⟩:=a2 b hb;exact ⟨t,List.mem_append_left _ ht,hh⟩
  ·obtain ⟨t,ht,hh⟩:=o3 b hb;exact ⟨t,List.mem_append_right _ ht,hh⟩
def Qd2 (d:Tmp) (ids:List Id) (objs':List (List CA)):Prop:=
 ids.Nodup∧(∀ k∈Qa6 d (objs'.drop ids.length),k∉ids)∧(∀ k∈Qle d (objs'.drop ids.length),k∉ids)∧∀ k∈Qcv ids objs',k∉ids++Qa6 d (objs'.drop ids.length)
theorem Qg0:∀ (ids:List Id) (objs:List (List CA)),Qcv ids (objs.take ids.length)=Qcv ids objs
 | [],objs=>by simp [Qcv]
 | o::ids,[]=>by simp [Qcv]
 | o::ids,cs::objs=>by simp [Qcv,Qg0 ids objs]
theorem Qjt (all:List Id):∀ (ids:List Id) (objs:List (List CA)) (s:St),QcH all s ids (objs.take ids.length)=QcH all s ids objs
 | [],objs,s=>by simp [QcH]
 | o::ids,[],s=>by simp [QcH]
 | o::ids,cs::objs,s=>by simp [QcH,Qjt all ids objs]
theorem QfF (o:Id):∀ (cs:List CA) (j:Nat) (k:Id),k∈QbE o j cs→k.2≠0
 | [],_,_,h=>by cases h
 | c::cs,j,k,h=>by
  simp only [QbE] at h
  split at h
  ·rcases List.mem_cons.1 h with rfl | h
   ·exact QnV o j
   ·exact QfF o cs _ k h
  ·exact QfF o cs _ k h
theorem Qka {d:Tmp} {op:Op} {xs:List Operand} {args:List Arg} {objs objs':List (List CA)} {res:Arg} {K:FuncId} {extra:List Value} {L0:List Pl} (hspec:Qan P K args objs res objs')
  (ids:List Id) {zs:List AV} {ts1 ts2:List Ho} (h1:MArgs σ ids (xs.map (ev σ)++zs) args ts1) (hz:∀ (E:Env) (σ':St) (a:Act) (w:World),(∀ l∈L0,σ' l=σ l)→Gm C E σ' a w→∃ us:List Value,us.length=zs.length∧(∀ (j:Nat) (x:AV) (v:Value),zs[j]? = some x→us[j]? = some v→RdA E σ' x v) ∧
   ∀ ty pos af,(execOp a.eval ⟨some d,op,ty,pos,af,none⟩).run P w=.ok (.enter K ((xs.map a.eval)++us).toArray) w)
  (h2:MObjs σ ids ids objs ts2) (hn:(ts1++ts2).Nodup) (hi:Qd2 d ids objs') (hlen:objs'.length=objs.length∨objs'.length=objs.length+1)
  (ty:TypeId) (pos:String) (af:Array Edge) :
  OpOk P ops C ⟨some d,op,ty,pos,af,none⟩ (rds σ (L0++QeN d xs ids (ts1++ts2) objs objs')) (QbY σ d ids (ts1++ts2) objs' res):=by
 intro E σ' a w Kt Q hd hr hg hK'
 have hr:=QcS hr
 have hd0:=hd d rfl
 obtain ⟨hr0,hr⟩:=Qaq hr
 obtain ⟨hi1,hi2,hi3,hi4⟩:=hi
 -- the state as it is
 obtain ⟨hr1,hrest⟩:=Qaq hr
 obtain ⟨hr2,hrest⟩:=Qaq hrest
 obtain ⟨hr3,hr4⟩:=Qaq hrest
 have o1:objs.length=ids.length:=by
  clear hr hr1 hr2 hr3 hr4 hrest h1 hz
  have:∀ {all ids:List Id} {objs:List (List CA)} {ts:List Ho},MObjs σ all ids objs ts→objs.length=ids.length:=by
   intro all ids objs ts h
   induction h <;> simp_all
  exact this h2
 have hids:∀ o∈ids,σ' (.g o)=σ (.g o):=fun o ho=>hr3 _ (Qh0 (by omega) ho)
 have ht2:∀ l∈QbC ts1,σ' l=σ l:=fun l hl=>hr2 l (by rw [Qbx];exact List.mem_append_left _ hl)
 have ht3:∀ l∈QbC ts2,σ' l=σ l:=fun l hl=>hr2 l (by rw [Qbx];exact List.mem_append_right _ hl)
 have h2':=h2.congr ht3 hids hr3
 have h1':=h1.congr ht2 hids
 rw [←QfD hr1] at h1'
 rw [←QmE (by omega) hr] at hK'
 obtain ⟨us,hu1,hu2,hrun⟩:=hz E σ' a w hr0 hg
 clear hr hrest hr1 hr2 hr3 hr4 h1 h2 ht2 ht3 hids hz
 obtain ⟨_,F,G,hH,hOw⟩:=QnZ hg h1' h2' (xs.map a.eval++us) (by simp [hu1]) (fun j x v q1 q2=>by
  rcases Nat.lt_or_ge j xs.length with hj | hj
  ·rw [List.getElem?_append_left (by simpa using hj),List.getElem?_map,List.getElem?_eq_getElem hj] at q1 q2
   cases q1;cases q2;exact Qax hg _
  ·rw [List.getElem?_append_right (by simpa using hj)] at q1 q2
   simp only [List.length_map] at q1 q2
   exact hu2 _ x v q1 q2) hn
 obtain ⟨bs,hbs⟩:∃ bs,bs=ids.map E.loc:=⟨_,rfl⟩
 rw [←hbs] at hH
 have hbs_at:∀ (i:Nat) (o:Id),ids[i]? = some o→bs[i]? = some (E.loc o):=fun i o h=>by rw [hbs,List.getElem?_map,h];rfl
 -- the call
 have hcall:=hspec E.m w (xs.map a.eval++us) bs F G hH
 rw [if_pos (by simp [Region.wanted])]
 show Oper.upon _ _ _ _ _ _
 rw [hrun]
 show Calls _ _ _ _ _
 refine hcall.mono ?_
 rintro e w' ⟨v,m',bs',F',G',rfl,hH',hmle,hchg,hbs',hmk,hnew⟩
 show Kt (a.put (some d) v) w'
 obtain ⟨d1,d2,d3,d3',d3'',d4,d5,d5',d6⟩:=Qj9 (σ:=σ') (ts1++ts2)
 obtain ⟨σ1,hσ1⟩:∃ s,s=Qaf σ' (Qa0 σ' (ts1++ts2)):=⟨_,rfl⟩
 rw [←hσ1] at d1 d2 d3 d3' d3'' d4 d5 d5' d6
 have dI:∀ o k g s,σ1 (.o o)=.itr k g s→σ' (.o o)=.itr k g s:=fun o k g s h=>Qlg (ts1++ts2) o k g s (by rw [←hσ1];exact h)
 obtain ⟨g1,mo1,l1⟩:=hg.drop σ1 d1 d2 d3 (fun o n h=>(d4 o n h).1) (fun k e sz T h=>(d5 k e sz T h).1) d6 (fun k x h=>(d5' k x h).1) (fun k i y h=>by rw [←d3''];exact h) d3' (fun o k g s h=>dI o k g s h)
 have hD:∀ b∈F++G,C.D b∨C.w0.heap.size≤b:=fun b hb=>by
  obtain ⟨t,_,hh⟩:=hOw b hb
  exact (hg.ho_dd hh).2
 have hfar:∀ b,Qbm E σ1 b→b∉F++G:=fun b ⟨t,ht⟩ hb=>by
  obtain ⟨t',ht',hh⟩:=hOw b hb
  have:=hg.ho_inj (l1 t b ht) hh
  subst this
  cases t with
  | o i=>obtain ⟨n,q1,_⟩:=ht;exact (d4 i n q1).2 ht'
  | k i=>obtain ⟨e,s,T,q1,_⟩:=ht;exact (d5 i e s T q1).2 ht'
  | r i=>obtain ⟨x,q1,_⟩:=ht;exact (d5' i x q1).2 ht'
 have g2:=g1.turn (fun b=>b∈F++G) w' m' hchg hmle hH'.ms hD hfar (fun b mb n bs l h1 hb=>by
  obtain ⟨t,_,hh⟩:=hOw b hb
  exact hg.ho_noIt hh _ _ _ _ h1) hmk
 obtain ⟨E2,hE2⟩:∃ E2:Env,E2 = { E with m:=m' }:=⟨_,rfl⟩
 rw [←hE2] at g2
 have e2m:E2.m=m':=by rw [hE2]
 have e2l:∀ o,E2.loc o=E.loc o:=fun o=>by rw [hE2]
 have e2L:∀ b,Qbm E2 σ1 b→Qbm E σ1 b:=fun b ⟨t,h⟩=>⟨t,by rw [hE2] at h;cases t <;> exact h⟩
 have hltw:∀ b,Qbm E σ1 b→b<w.heap.size:=fun b ⟨t,ht⟩=>(g1.ho_dd ht).1
 have hnotL:∀ b∈F'++G',¬Qbm E2 σ1 b:=fun b hb hL=>by
  have hL:=e2L b hL
  rcases hnew b hb with r | r
  ·exact hfar b hL r
  ·have:=hltw b hL;omega
 have hD':∀ b∈F'++G',C.D b∨C.w0.heap.size≤b:=fun b hb=>by
  rcases hnew b hb with r | r
  ·exact hD b r
  ·have:=hg.fr.size;exact .inr (by omega)
 have hbl':bs'.length=objs'.length:=hH'.ob.len
 have hloc2:∀ (ob:Nat) (o':Id) (b:Nat),ids[ob]? = some o'→bs'[ob]? = some b→E2.loc o'=b:=fun ob o' b q1 q2=>by
  have:=hbs' ob _ (hbs_at ob o' q1)
  rw [q2] at this
  cases this
  exact e2l o'
 obtain ⟨G1,G2,s1,s2,s3,s4⟩:=hH'.ob.split ids.length
 -- a new object
 obtain ⟨fr,hfr⟩:∃ l,l=objs'.drop ids.length:=⟨_,rfl⟩
 have hfresh:∃ E3 σ2,σ2=Qaf σ1 (QgY σ1 ids d fr)∧Gm C E3 σ2 a w'∧Mo E2 σ1 E3 σ2∧E3.m=m'∧(∀ o'∈ids,E3.loc o'=E2.loc o'∧gg σ2 o'=gg σ1 o')∧(∀ b,Qbm E3 σ2 b→Qbm E2 σ1 b∨b∈G2) ∧
   (∀ o'∈Qa6 d fr,∀ b,bs'[ids.length]? = some b→E3.loc o'=b∧∀ off,RdA E3 σ2 (.ptr o' (gg σ2 o') off) (.pointer (some ⟨b,off,none⟩))):=by
  rcases hlen with hl | hl
  ·have hdrop:fr=[]:=by rw [hfr];exact List.drop_eq_nil_of_le (by omega)
   refine ⟨E2,σ1,by rw [hdrop];rfl,g2,Mo.same (fun _=>rfl) (fun _=>rfl) (fun _=>rfl) (fun _=>rfl),e2m,fun _ _=>⟨rfl,rfl⟩,fun b h=>.inl h,fun o' h=>by rw [hdrop] at h;cases h⟩
  ·have hlt:ids.length<objs'.length:=by omega
   have hdrop:fr=objs'[ids.length]::objs'.drop (ids.length+1):=by rw [hfr];exact List.drop_eq_getElem_cons hlt
   have hbdrop:bs'.drop ids.length=bs'[ids.length]'(by omega)::bs'.drop (ids.length+1):=List.drop_eq_getElem_cons (by omega)
   rw [←hfr,hdrop,hbdrop] at s2
   have hbat:bs'[ids.length]? = some (bs'[ids.length]'(by omega)):=by simp [hbl',hlt]
   generalize bs'[ids.length]'(by omega)=b0 at s2 hbat
   generalize objs'[ids.length]=cs at s2 hdrop
   cases s2 with
   | @cons _ _ vs ty F0 _ _ F1 p1 p2 p3 p4 p5 p6=>
    have hG2:∀ b∈b0::F0,b∈F'++G':=fun b hb=>List.mem_append_right _ (s4 b (.inr (List.mem_append_left _ hb)))
    have hk0:∀ k∈QbE (d,0) 0 cs,k∉ids∧k≠(d,0):=fun k hk=>⟨hi3 k (by rw [←hfr,hdrop];exact hk),fun e=>QfF _ _ _ k hk (by rw [e])⟩
    obtain ⟨E3,f1,f2,f3,f4,f5,f6,f7,f8⟩:=Qet g2 ids bs' hloc2 (d,0) (gg σ1 (d,0)+1) b0 (.inr ⟨by omega,C.np d hd0,rfl⟩) ty cs vs F0 hk0 p1 (fun k=>by rw [e2m];exact p2 k) (by rw [e2m];exact p3) p4
     (fun b hb=>⟨hD' b (hG2 b hb),hnotL b (hG2 b hb)⟩)
    refine ⟨E3,_,by rw [hdrop];rfl,f1,f2,by rw [f3,e2m],fun o' ho'=>f4 o' (fun h=>(hk0 o' h).1 ho') (fun e=>hi2 (d,0) (by rw [←hfr,hdrop];simp [Qa6]) (e ▸ ho')),fun b hL=>?_,fun o' ho' b hb=>?_⟩
    ·rcases f7 b hL with r | r
     ·exact .inl r
     ·exact .inr (List.mem_append_left _ r)
    ·rw [hdrop] at ho'
     simp [Qa6] at ho'
     subst ho'
     rw [hbat] at hb
     cases hb
     exact ⟨f5,fun off=>by rw [f6];exact f8 off⟩
 obtain ⟨E3,σ2,hσ2,g3,mo3,em3,hsame3,eL3,hnewo⟩:=hfresh
 obtain ⟨all,hall⟩:∃ l,l=ids++Qa6 d fr:=⟨_,rfl⟩
 have hfrl:(Qa6 d fr).length≤1:=by cases fr <;> simp [Qa6]
 have hloc3:∀ (ob:Nat) (o':Id) (b:Nat),all[ob]? = some o'→bs'[ob]? = some b→E3.loc o'=b:=fun ob o' b q1 q2=>by
  rw [hall] at q1
  rcases Nat.lt_or_ge ob ids.length with hl | hl
  ·rw [List.getElem?_append_left hl] at q1
   rw [(hsame3 o' (List.mem_of_getElem? q1)).1];exact hloc2 ob o' b q1 q2
  ·rw [List.getElem?_append_right hl] at q1
   have hob:ob=ids.length:=by have:=(List.getElem?_eq_some_iff.1 q1).1;omega
   subst hob
   exact (hnewo o' (List.mem_of_getElem? q1) b q2).1
 obtain ⟨E4,g4,mo4,em4,hsame4,eL4⟩:=Qj5 all bs' ids (objs'.take ids.length) (bs'.take ids.length) G1 E3 σ2 g3 (by rw [em3];exact s1) (by rw [List.length_take];omega) hi1 (fun o h=>by rw [hall];exact List.mem_append_left _ h) hloc3
  (fun i o b q1 q2=>by
   rw [List.getElem?_take] at q2
   split at q2
   ·rw [(hsame3 o (List.mem_of_getElem? q1)).1];exact hloc2 i o b q1 q2
   ·cases q2)
  (fun k hk=>by rw [Qg0] at hk;rw [hall,hfr];exact hi4 k hk)
  (fun b hb=>⟨hD' b (List.mem_append_right _ (s4 b (.inl hb))),fun hL=>by
   rcases eL3 b hL with r | r
   ·exact hnotL b (List.mem_append_right _ (s4 b (.inl hb))) r
   ·exact s3 b hb r⟩)
 rw [Qjt] at g4 mo4 hsame4 eL4
 obtain ⟨σ3,hσ3⟩:∃ s,s=Qaf σ2 (QcH all σ2 ids objs'):=⟨_,rfl⟩
 rw [←hσ3] at g4 mo4 hsame4 eL4
 have hF':∀ b∈F',¬Qbm E4 σ3 b:=fun b hb hL=>by
  have hG:b∈G'→False:=fun h=>hH'.di b hb h
  rcases eL4 b hL with r | r
  ·rcases eL3 b r with r | r
   ·exact hnotL b (List.mem_append_left _ hb) r
   ·exact hG (s4 b (.inr r))
  ·exact hG (s4 b (.inl r))
 -- the result
 have hres:=hH'.ar
 cases hres with
 | @cons _ _ F0 _ _ F1 q1 q2 q3=>
  cases q2
  simp only [List.append_nil] at hF' hD' hnew hnotL
  have hptr:∀ i off b,bs'[i]? = some b→RdP E4 σ3 (QfC σ3 d ids i off) (.pointer (some ⟨b,off,none⟩)):=fun i off b q4=>by
   by_cases hil:i<ids.length
   ·have q5:ids[i]? = some ids[i]:=by simp [hil]
    simp only [QfC,q5]
    have hm:ids[i]∈all:=by rw [hall];exact List.mem_append_left _ (List.getElem_mem hil)
    refine ⟨Nat.le_refl _,fun _=>?_⟩
    rw [(hsame4 _ hm).1,hloc3 i ids[i] b (by rw [hall,List.getElem?_append_left hil];exact q5) q4]
   ·have hlt:=(List.getElem?_eq_some_iff.1 q4).1
    have hie:i=ids.length:=by omega
    subst hie
    have hnone:ids[ids.length]? = none:=List.getElem?_eq_none (Nat.le_refl _)
    simp only [QfC,hnone]
    have hfm:(d,0)∈Qa6 d fr:=by
     have:fr≠[]:=by rw [hfr];intro h;have:=congrArg List.length h;simp at this;omega
     cases hc:fr with
     | nil=>exact absurd hc this
     | cons=>simp [Qa6]
    have h5:=(hnewo _ hfm b q4).2 off
    have h6:=(hsame4 (d,0) (by rw [hall];exact List.mem_append_right _ hfm)).2
    rw [h6]
    exact h5.mo mo4
  have hrow:∃ E5 σ4,σ4=Qaf σ3 (QgZ σ3 d res)∧Gm C E5 σ4 a w'∧Mo E4 σ3 E5 σ4∧RdA E5 σ4 (Qj8 σ3 σ3 d ids res) v:=by
   have triv:QgZ σ3 d res=[]→RdA E4 σ3 (Qj8 σ3 σ3 d ids res) v→∃ E5 σ4,σ4=Qaf σ3 (QgZ σ3 d res)∧Gm C E5 σ4 a w'∧Mo E4 σ3 E5 σ4∧RdA E5 σ4 (Qj8 σ3 σ3 d ids res) v:=fun h1 h2=>
    ⟨E4,σ3,by rw [h1];rfl,g4,Mo.same (fun _=>rfl) (fun _=>rfl) (fun _=>rfl) (fun _=>rfl),h2⟩
   cases res with
   | ca c=>
    cases c with
    | val y=>exact triv rfl (by show Rd E4.m y v;rw [em4,em3];exact q1.1)
    | own e sz es=>
     obtain ⟨⟨p1,ys,p2,p3⟩,rfl⟩:=q1
     obtain ⟨E5,f1,f2,f3,f4,f5,f6⟩:=g4.gainRow (d,0) (gq σ3 (d,0)+1) (by omega) e sz es.length v ys p2 (fun b hb=>⟨fun i=>by rw [em4,em3];exact p3 b hb i,hD' b (List.mem_append_left _ (by simpa using hb)),hF' b (by simpa using hb)⟩)
     exact ⟨E5,_,rfl,f1,f2,f6 es rfl (by rw [em4,em3];exact p1)⟩
    | hd x=>
     obtain ⟨p1,p2⟩:=q1
     obtain ⟨E5,f1,f2,f3,f4,f5,f6⟩:=g4.gainTree (d,1) x v F0 p2 (by rw [em4,em3];exact p1) (fun b hb=>⟨hD' b (List.mem_append_left _ hb),hF' b hb⟩) (by simp)
     exact ⟨E5,_,rfl,f1,f2,f6.toA⟩
    | hdl x i ob=>exact triv rfl (Rd.any _)
   | ptr i off=>
    obtain ⟨⟨b,q4,rfl⟩,rfl⟩:=q1
    exact triv rfl (hptr i off b q4).toA
   | fn K cs=>
    obtain ⟨⟨ys,rfl,q4,q5⟩,rfl⟩:=q1
    refine triv rfl ⟨ys,rfl,by simpa using q4,fun i h1 h2=>?_⟩
    have hic:i<cs.length:=by simpa using h1
    have:=q5 i cs[i] ys[i] (by simp [hic]) (by simp [h2])
    rw [List.getElem_map]
    generalize cs[i]=c at this ⊢
    generalize ys[i]=y at this ⊢
    cases c with
    | val x=>show Rd E4.m x y;rw [em4,em3];exact this
    | ptr i off=>
     obtain ⟨b,q6,rfl⟩:=this
     exact hptr i off b q6
  obtain ⟨E5,σ4,hσ4,g5,mo5,hAV⟩:=hrow
  have hfin:Qaf σ' (QbY σ' d ids (ts1++ts2) objs' res)=put σ4 (.s d) (.av (Qj8 σ3 σ3 d ids res)):=by
   have e1:Qaf σ' (Qi8 σ' d ids (ts1++ts2) objs')=σ3:=by
    simp only [Qi8,Qal]
    rw [←hσ1,←hfr,←hall,←hσ2,←hσ3]
   unfold QbY
   simp only [Qal]
   rw [e1,←hσ4]
   rfl
  refine hK' _ _ E5 ?_
  rw [hfin]
  exact g5.slot d _ v hd0 hAV
theorem QmF {d:Tmp} {K:FuncId} (hK:∀ args w,(callFunc K args).run P w=.ok (.enter K args) w) {xs:List Operand} {tys:Array TypeId} {args:List Arg} {objs objs':List (List CA)} {res:Arg} (hspec:Qan P K args objs res objs')
  (ids:List Id) {ts1 ts2:List Ho} (h1:MArgs σ ids (xs.map (ev σ)) args ts1) (h2:MObjs σ ids ids objs ts2) (hn:(ts1++ts2).Nodup) (hi:Qd2 d ids objs') (hlen:objs'.length=objs.length∨objs'.length=objs.length+1)
  (ty:TypeId) (pos:String) (af:Array Edge) :
  OpOk P ops C ⟨some d,.call { callee:=.value (.func K),args:=xs.toArray,argTypes:=tys },ty,pos,af,none⟩ (rds σ (QeN d xs ids (ts1++ts2) objs objs')) (QbY σ d ids (ts1++ts2) objs' res):=
 Qka (L0:=[]) (zs:=[]) (extra:=[]) hspec ids (by simpa using h1) (fun E σ' a w _ _=>⟨[],rfl,fun j x v h=>by simp at h,fun ty pos af=>by simp [execOp,resolve,Act.eval,Deferred.ofValue,invoke,hK]⟩) h2 hn hi hlen ty pos af
theorem Qvp {d:Tmp} {K:FuncId} (hK:∀ args w,(callFunc K args).run P w=.ok (.enter K args) w) {f:Operand} {zs:List AV} (hf:ev σ f=.fn K zs∨(ev σ f=.val (.sc (.func (.func K) #[] #[]))∧zs=[])) {xs:List Operand} {tys:Array TypeId} {args:List Arg} {objs objs':List (List CA)} {res:Arg} (hspec:Qan P K args objs res objs')
  (ids:List Id) {ts1 ts2:List Ho} (h1:MArgs σ ids (xs.map (ev σ)++zs) args ts1) (h2:MObjs σ ids ids objs ts2) (hn:(ts1++ts2).Nodup) (hi:Qd2 d ids objs') (hlen:objs'.length=objs.length∨objs'.length=objs.length+1)
  (ty:TypeId) (pos:String) (af:Array Edge) :
  OpOk P ops C ⟨some d,.call { callee:=.value f,args:=xs.toArray,argTypes:=tys },ty,pos,af,none⟩ (rds σ (rdl f++QeN d xs ids (ts1++ts2) objs objs')) (QbY σ d ids (ts1++ts2) objs' res):=
 Qka (L0:=rdl f) (extra:=[]) hspec ids h1 (fun E σ' a w hr hg=>by
   have hv:=Qax hg f
   rw [Qae hr] at hv
   rcases hf with hf | ⟨hf,rfl⟩
   ·rw [hf] at hv
    obtain ⟨ys,h3,h4,h5⟩:=hv
    refine ⟨ys,h4,fun j x v q1 q2=>?_,fun ty pos af=>by simp [execOp,resolve,h3,Deferred.ofValue,invoke,hK]⟩
    obtain ⟨q3,rfl⟩:=List.getElem?_eq_some_iff.1 q1
    obtain ⟨q4,rfl⟩:=List.getElem?_eq_some_iff.1 q2
    exact (h5 j q3 q4).toA
   ·rw [hf] at hv
    have hv:=Rd.sc_eq hv
    exact ⟨[],rfl,fun j x v h=>by simp at h,fun ty pos af=>by simp [execOp,resolve,hv,Deferred.ofValue,invoke,hK]⟩) h2 hn hi hlen ty pos af
end
end Go.Proofs.YthfocmakkeonoaaGreatDoor
namespace Go.Proofs.YthfocmakkeonoaaGreatDoor
open Go.RowKit
section
variable {P:Program} {ops:Array Oper} {C:Ctx} {E:Env} {σ:St} {a:Act} {w:World}
theorem Gm.turnTree (h:Gm C E σ a w) (k:Id) (x x':T) (v':Value) (F':List Nat) (w':World) (σ':St) (hx:σ (.r k)=.tree x) (ha:∀ y,x'≠.av y) (hbx:∀ ys,x'≠.box ys) (hh:Hg E.m w' [x'] [v'] F') (hF:∀ b∈F',b∈E.bf k∨w.heap.size≤b)
  (hc:Chg (fun b=>b∈E.bf k) w w') (qr:∀ k',σ' (.r k')=if k'=k then .tree x' else σ (.r k')) (ql:∀ k',k'≠k→σ' (.l k')=σ (.l k')) (hlk:∀ i y,σ' (.l k)=.lent i y→∃ v,QcB w' v' i=some v∧RdA E σ y v)
  (qo:∀ o,σ' (.o o)=σ (.o o)) (qg:∀ k',k'≠k→σ' (.g k')=σ (.g k')) (qgk:gg σ k<gg σ' k) (qh:∀ k',k'≠k→σ' (.h k')=σ (.h k')) (qhk:gh σ k<gh σ' k∨(gh σ' k=gh σ k∧v'=E.bv k)) (qs:∀ t,σ' (.s t)=σ (.s t)) (qc:∀ o i,σ' (.c o i)=σ (.c o i)) (qk:∀ k',σ' (.k k')=σ (.k k')) (qq:∀ k',σ' (.q k')=σ (.q k')) :
  ∃ E',Gm C E' σ' a w'∧Mo E σ E' σ'∧E'.m=E.m∧E'.bv k=v'∧(∀ k',k'≠k→E'.bv k'=E.bv k'):=by
 have ht:=h.tr
 obtain ⟨hgk,_⟩:=ht.hg k x hx
 have hmem:=hgk.mem
 obtain ⟨E',hE'⟩:∃ E':Env,E' = { E with bv:=fun k'=>if k'=k then v' else E.bv k',bf:=fun k'=>if k'=k then F' else E.bf k' }:=⟨_,rfl⟩
 have em:E'.m=E.m:=by rw [hE']
 have eloc:E'.loc=E.loc:=by rw [hE']
 have erv:E'.rv=E.rv:=by rw [hE']
 have erx:E'.rx=E.rx:=by rw [hE']
 have ebv:∀ k',E'.bv k'=if k'=k then v' else E.bv k':=by intro k';rw [hE']
 have ebf:∀ k',E'.bf k'=if k'=k then F' else E.bf k':=by intro k';rw [hE']
 clear hE'
 -- places beside
 have hmo:Mo E σ E' σ':=by
  refine ⟨by rw [em];exact Mem.le_refl _,fun o=>?_,fun q=>⟨Nat.le_of_eq (Qda (qq q)).symm,fun _ e sz T h2=>⟨T,by rw [←qk];exact h2,Nat.le_refl _,fun _=>by rw [erv]⟩⟩,fun q=>?_⟩
  ·refine ⟨?_,fun _=>by rw [eloc]⟩
   by_cases e:o=k
   ·subst e;omega
   ·exact Nat.le_of_eq (Qaz (qg o e)).symm
  ·by_cases e:q=k
   ·subst e
    rcases qhk with q1 | ⟨q1,q2⟩
    ·exact ⟨by omega,fun he=>absurd he (by omega)⟩
    ·exact ⟨by omega,fun _=>by rw [ebv,if_pos rfl,q2]⟩
   ·exact ⟨Nat.le_of_eq (QaL (qh q e)).symm,fun _=>by rw [ebv,if_neg e]⟩
 have hkeep:∀ b,b<w.heap.size→b∉E.bf k→w'.heap[b]? = w.heap[b]?:=fun b h1 h2=>hc.block b h1 h2
 have hcell:∀ b i,b<w.heap.size→b∉E.bf k→w'.cell? ⟨b,i,none⟩=w.cell? ⟨b,i,none⟩:=fun b i h1 h2=>World.cell?_of_block (hkeep b h1 h2)
 have hobj:∀ o n,σ (.o o)=.num n→E.loc o<w.heap.size∧E.loc o∉E.bf k:=fun o n h1=>by
  obtain ⟨⟨c1,t1,h2,_⟩,_⟩:=h.ob o n h1
  exact ⟨(Array.getElem?_eq_some_iff.1 h2).1,ht.ot o n k x h1 hx⟩
 have hrow:∀ k' e s T b,σ (.k k')=.row e s T→(E.rv k').ownBlock=some b→b<w.heap.size∧b∉E.bf k:=fun k' e s T b h1 h2=>
  ⟨((h.ro k' e s T h1).1.lt b h2).2,fun hb=>ht.tk k' e s T k x b h1 hx hb h2⟩
 have htree:∀ k' y b,k'≠k→σ (.r k')=.tree y→b∈E.bf k'→b<w.heap.size∧b∉E.bf k∧b∉F':=fun k' y b hne h1 h2=>by
  have hlt:=((ht.hg k' y h1).1.mem b h2).1
  have hnk:b∉E.bf k:=fun hb=>hne (ht.tt k' k y x b h1 hx h2 hb)
  exact ⟨hlt,hnk,fun hb=>by rcases hF b hb with h3 | h3;exact hnk h3;omega⟩
 have hiter:∀ b mb n bs l,w.heap[b]? = some (Obj.mapIter mb n bs l)→w'.heap[b]? = w.heap[b]?:=fun b mb n bs l h1=>
  hkeep b (Array.getElem?_eq_some_iff.1 h1).1 (fun hb=>hgk.noIt b hb _ _ _ _ h1)
 refine ⟨E',⟨h.sz,h.df,fun b i u hu=>?_,h.fr.step hc (fun i hi he=>by rcases ht.dd k x i hx he with h1 | h1;exact h1;omega),fun t y h1=>(h.sl t y (by rw [←qs];exact h1)).mo hmo,fun o i y n h1 h2 h3=>?_,fun o n h1=>?_,fun k' e s T h1=>?_,fun o o' n n' h1 h2 h3=>?_,fun k1 k2 e s T e' s' T' b h1 h2 h3 h4=>?_,fun o n k' e s T h1 h2=>?_,fun o b h1=>by rw [eloc];exact h.pi o b h1,by rw [em];exact h.ml,by rw [em];exact h.mx,
  ⟨fun k' y h1=>?_,fun k' y b h1 h2=>?_,fun k' ys h1=>?_,fun k1 k2 y1 y2 b h1 h2 h3 h4=>?_,fun o n k' y h1 h2 h3=>?_,fun k1 e s T k' y b h1 h2 h3 h4=>?_,fun k' y i z h1 h2=>?_,fun o k' g s h1=>?_,fun o o' k1 g s k2 g' s' h1 h2 h3=>?_⟩⟩,hmo,em,by rw [ebv,if_pos rfl],fun k' e=>by rw [ebv,if_neg e]⟩
 ·rw [em] at hu
  have h1:=h.ms b i u hu
  have hlt:=World.block_lt_of_cell? w _ h1
  rw [hcell b i hlt (fun hb=>by rw [(hmem b hb).2 i] at hu;cases hu)]
  exact h1
 ·rw [qc] at h1
  rw [qo] at h2
  obtain ⟨u,hu,hr⟩:=h.ce o i y n h1 h2 h3
  obtain ⟨h4,h5⟩:=hobj o n h2
  exact ⟨u,by rw [eloc,hcell _ _ h4 h5];exact hu,hr.mo hmo⟩
 ·rw [qo] at h1
  obtain ⟨h4,h5⟩:=hobj o n h1
  rw [eloc,em,hkeep _ h4 h5]
  exact h.ob o n h1
 ·rw [qk] at h1
  rw [erv,erx,em]
  obtain ⟨h2,h3⟩:=h.ro k' e s T h1
  exact ⟨QcG h2 fun b hb=>hkeep b (hrow k' e s T b h1 hb).1 (hrow k' e s T b h1 hb).2,h3⟩
 ·rw [qo] at h1 h2
  rw [eloc] at h3
  exact h.oo o o' n n' h1 h2 h3
 ·rw [qk] at h1 h2
  rw [erv] at h3 h4
  exact h.rr k1 k2 e s T e' s' T' b h1 h2 h3 h4
 ·rw [qo] at h1
  rw [qk] at h2
  rw [erv,eloc]
  exact h.or o n k' e s T h1 h2
 ·rw [qr] at h1
  rw [ebv,ebf,em]
  by_cases e:k'=k
  ·rw [if_pos e] at h1 ⊢
   rw [if_pos e]
   cases h1
   exact ⟨hh,ha⟩
  ·rw [if_neg e] at h1 ⊢
   rw [if_neg e]
   obtain ⟨h2,h3⟩:=ht.hg k' y h1
   exact ⟨h2.mono (Mem.le_refl _) fun b hb=>⟨hkeep b (htree k' y b e h1 hb).1 (htree k' y b e h1 hb).2.1,fun _=>rfl⟩,h3⟩
 ·rw [ebf] at h2
  rw [qr] at h1
  by_cases e:k'=k
  ·rw [if_pos e] at h2
   rcases hF b h2 with h3 | h3
   ·exact ht.dd k x b hx h3
   ·have:=h.fr.size;exact .inr (by omega)
  ·rw [if_neg e] at h1 h2
   exact ht.dd k' y b h1 h2
 ·rw [qr] at h1
  by_cases e:k'=k
  ·rw [if_pos e] at h1;cases h1;exact absurd rfl (hbx ys)
  ·rw [if_neg e] at h1
   rw [ebv,if_neg e,eloc]
   exact ht.bx k' ys h1
 ·rw [qr] at h1 h2
  rw [ebf] at h3 h4
  by_cases e1:k1=k
  ·by_cases e2:k2=k
   ·rw [e1,e2]
   ·rw [if_pos e1] at h3
    rw [if_neg e2] at h2 h4
    exact absurd h3 (htree k2 y2 b e2 h2 h4).2.2
  ·rw [if_neg e1] at h1 h3
   by_cases e2:k2=k
   ·rw [if_pos e2] at h4
    exact absurd h4 (htree k1 y1 b e1 h1 h3).2.2
   ·rw [if_neg e2] at h2 h4
    exact ht.tt k1 k2 y1 y2 b h1 h2 h3 h4
 ·rw [qo] at h1
  rw [qr] at h2
  rw [eloc,ebf] at h3
  by_cases e:k'=k
  ·rw [if_pos e] at h3
   obtain ⟨h4,h5⟩:=hobj o n h1
   rcases hF _ h3 with h6 | h6
   ·exact h5 h6
   ·omega
  ·rw [if_neg e] at h2 h3
   exact ht.ot o n k' y h1 h2 h3
 ·rw [qk] at h1
  rw [qr] at h2
  rw [ebf] at h3
  rw [erv] at h4
  by_cases e1:k'=k
  ·rw [if_pos e1] at h3
   obtain ⟨h5,h6⟩:=hrow k1 e s T b h1 h4
   rcases hF _ h3 with h7 | h7
   ·exact h6 h7
   ·omega
  ·rw [if_neg e1] at h2 h3
   exact ht.tk k1 e s T k' y b h1 h2 h3 h4
 ·rw [qr] at h1
  rw [ebv]
  by_cases e:k'=k
  ·subst e
   rw [if_pos rfl]
   obtain ⟨u,h3,h4⟩:=hlk i z h2
   exact ⟨u,h3,h4.mo hmo⟩
  ·rw [if_neg e] at h1 ⊢
   rw [ql k' e] at h2
   obtain ⟨u,h3,h4⟩:=ht.le k' y i z h1 h2
   refine ⟨u,?_,h4.mo hmo⟩
   rw [QhJ (fun b hb=>?_)]
   ·exact h3
   ·have:=(ht.hg k' y h1).1.head (ht.hg k' y h1).2 b hb
    exact hkeep b (htree k' y b e h1 this).1 (htree k' y b e h1 this).2.1
 ·rw [qo] at h1
  obtain ⟨mb,n,bs,l,h3,h4,h5,h6⟩:=ht.it o k' g s h1
  have hgl:=(hmo.g k').1
  refine ⟨mb,n,bs,l,by rw [eloc,hiter _ _ _ _ _ h3];exact h3,by rw [eloc];exact h4,by omega,fun he y hy=>?_⟩
  by_cases e:k'=k
  ·subst e;omega
  ·rw [qr,if_neg e] at hy
   rcases h6 (by have:=Qaz (qg k' e);omega) y hy with ⟨q1,q2⟩ | ⟨r,ents,clock,q1,q2,q3,q4⟩
   ·exact .inl ⟨q1,by rw [ebv,if_neg e];exact q2⟩
   ·have:=(ht.hg k' y hy).1.head (ht.hg k' y hy).2 r (.inr q2)
    exact .inr ⟨r,ents,clock,q1,by rw [ebv,if_neg e];exact q2,by rw [hkeep r (htree k' y r e hy this).1 (htree k' y r e hy this).2.1];exact q3,q4⟩
 ·rw [qo] at h1 h2
  rw [eloc] at h3
  exact ht.ii o o' k1 g s k2 g' s' h1 h2 h3
def QaR (σ:St) (k:Id) (x:T):List (Pl × X):=[(.g k,.num (gg σ k+1)),(.r k,.tree x)]
def Qcw (σ:St) (k:Id) (x:T):List (Pl × X):=[(.g k,.num (gg σ k+1)),(.h k,.num (gh σ k+1)),(.l k,.non),(.r k,.tree x)]
theorem Gm.setT (h:Gm C E σ a w) (k:Id) (x x':T) (F':List Nat) (w':World) (hx:σ (.r k)=.tree x) (hb:∀ ys,x≠.box ys) (ha:∀ y,x'≠.av y) (hbx:∀ ys,x'≠.box ys) (hh:Hg E.m w' [x'] [E.bv k] F') (hF:∀ b∈F',b∈E.bf k∨w.heap.size≤b)
  (hc:Chg (fun b=>b∈E.bf k) w w') (hl:∀ i y,σ (.l k)=.lent i y→QcB w' (E.bv k) i=QcB w (E.bv k) i) :
  ∃ E',Gm C E' (Qaf σ (QaR σ k x')) a w'∧Mo E σ E' (Qaf σ (QaR σ k x'))∧E'.m=E.m∧E'.bv k=E.bv k:=by
 have q:∀ l,Qaf σ (QaR σ k x') l=if l=.r k then .tree x' else if l=.g k then .num (gg σ k+1) else σ l:=fun l=>by
  show put (put σ (.g k) _) (.r k) _ l=_
  unfold put;rfl
 have qg:gg (Qaf σ (QaR σ k x')) k=gg σ k+1:=QdO (by rw [q];simp)
 obtain ⟨E',g1,g2,g3,g4,_⟩:=h.turnTree k x x' (E.bv k) F' w' (Qaf σ (QaR σ k x')) hx ha hbx hh hF hc (fun k'=>by rw [q];simp) (fun k' e=>by rw [q];simp) (fun i y h1=>by
   rw [q] at h1
   simp at h1
   obtain ⟨v,h2,h3⟩:=h.tr.le k x i y hx h1
   exact ⟨v,by rw [hl i y h1];exact h2,h3⟩) (fun o=>by rw [q];simp) (fun k' e=>by rw [q];simp [e]) (by omega) (fun k' e=>by rw [q];simp) (.inr ⟨QaL (by rw [q];simp),rfl⟩) (fun t=>by rw [q];simp) (fun o i=>by rw [q];simp) (fun k'=>by rw [q];simp) (fun k'=>by rw [q];simp)
 exact ⟨E',g1,g2,g3,g4⟩
theorem Gm.newT (h:Gm C E σ a w) (k:Id) (x x':T) (v':Value) (F':List Nat) (w':World) (hx:σ (.r k)=.tree x) (ha:∀ y,x'≠.av y) (hbx:∀ ys,x'≠.box ys) (hh:Hg E.m w' [x'] [v'] F') (hF:∀ b∈F',b∈E.bf k∨w.heap.size≤b)
  (hc:Chg (fun b=>b∈E.bf k) w w') :
  ∃ E',Gm C E' (Qaf σ (Qcw σ k x')) a w'∧Mo E σ E' (Qaf σ (Qcw σ k x'))∧E'.m=E.m∧RdA E' (Qaf σ (Qcw σ k x')) (.ref k (gh σ k+1)) v':=by
 have q:∀ l,Qaf σ (Qcw σ k x') l=if l=.r k then .tree x' else if l=.l k then .non else if l=.h k then .num (gh σ k+1) else if l=.g k then .num (gg σ k+1) else σ l:=fun l=>by
  show put (put (put (put σ (.g k) _) (.h k) _) (.l k) _) (.r k) _ l=_
  unfold put;rfl
 have qh:gh (Qaf σ (Qcw σ k x')) k=gh σ k+1:=Qk0 (by rw [q];simp)
 have qg:gg (Qaf σ (Qcw σ k x')) k=gg σ k+1:=QdO (by rw [q];simp)
 obtain ⟨E',g1,g2,g3,g4,_⟩:=h.turnTree k x x' v' F' w' (Qaf σ (Qcw σ k x')) hx ha hbx hh hF hc (fun k'=>by rw [q];simp) (fun k' e=>by rw [q];simp [e]) (fun i y h1=>by
   rw [q] at h1;simp at h1) (fun o=>by rw [q];simp) (fun k' e=>by rw [q];simp [e]) (by omega) (fun k' e=>by rw [q];simp [e]) (.inl (by omega)) (fun t=>by rw [q];simp) (fun o i=>by rw [q];simp) (fun k'=>by rw [q];simp) (fun k'=>by rw [q];simp)
 exact ⟨E',g1,g2,g3,⟨by omega,fun _=>g4.symm⟩⟩
end
end Go.Proofs.YthfocmakkeonoaaGreatDoor
