/- A slice of texts made with make. -/
import Derived.Test.YthfocmakkeonoaaGreatDoorRCz
import Derived.Test.YthfocmakkeonoaaGreatDoorRPz
import Derived.Test.YthfocmakkeonoaaGreatDoorQInz
import Derived.Test.YthfocmakkeonoaaGreatDoorBuf5z
import Derived.Test.YthfocmakkeonoaaGreatDoorRVz
import Derived.Test.YthfocmakkeonoaaGreatDoorSl0z
import Derived.Test.YthfocmakkeonoaaGreatDoorRLz
import Derived.Test.YthfocmakkeonoaaGreatDoorRtp1z
set_option linter.unusedVariables false
set_option linter.unusedSimpArgs false
set_option maxRecDepth 100000
set_option maxHeartbeats 16000000
namespace Go.Proofs.YthfocmakkeonoaaGreatDoor
open Go.RowKit
section
variable {P:Program} {ops:Array Oper} {C:Ctx} {E:Env} {σ:St} {a:Act} {w:World} {md:Bool} {K:St→List FP→Prop} {acc:List FP} {rest:List Oper}
end
end Go.Proofs.YthfocmakkeonoaaGreatDoor
namespace Go.Proofs.YthfocmakkeonoaaGreatDoor
open Go.RowKit
structure RF where
 tm:Int
 t0:Int
 has:List Bool
 parts:List (List UInt8)
abbrev rfL (r:RF):List V:=[vi r.tm,vi r.t0,.lst 1 (r.has.map fun b=>[vb b]),.lst 1 (r.parts.map fun s=>[vs s])]
def QFA (r:RF):List V:=rfL r
attribute [go_sem] QFA
def QAc (t c now:Int):RF:=⟨t,now,List.replicate (max 1 (min c 255)).toNat false,List.replicate (max 1 (min c 255)).toNat []⟩
def QcK:Nat→List Bool→List Nat
 | _,[]=>[]
 | k,b::l=>if b=true then QcK (k+1) l else k::QcK (k+1) l
def Qt0 (r:RF) (i c:Int) (s:List UInt8):RF × Int:=
 if c≠r.has.length∨i<0∨c≤i then (r,4)
 else if r.has.getD i.toNat false=true then (r,3)
 else let g:RF:={ r with has:=r.has.set i.toNat true,parts:=r.parts.set i.toNat s }
  (g,if (QcK 0 g.has).length=0 then 2 else 1)
def Qu5:List (List UInt8)→List UInt8
 | []=>[]
 | s::l=>s++Qu5 l
def Qt1 (r:RF):List UInt8 × Int:=(if QcK 0 r.has=[] then Qu5 r.parts else [],(Qu5 r.parts).length)
structure RF.Ok (r:RF):Prop where
 ln:r.parts.length=r.has.length
 l1:r.has.length≤255
 sz:∀ s∈r.parts,s.length≤1048576
theorem Qga:∀ (a b:List Bool) (k:Nat),QcK k (a++b)=QcK k a++QcK (k+a.length) b
 | [],b,k=>by simp [QcK]
 | x::a,b,k=>by
  simp only [List.cons_append,QcK]
  rw [Qga a b (k+1),show k+1+a.length=k+(x::a).length by simp only [List.length_cons];omega]
  split <;> rfl
theorem QwV (a b:List (List UInt8)):Qu5 (a++b)=Qu5 a++Qu5 b:=by
 induction a with
 | nil=>rfl
 | cons x a ih=>simp only [List.cons_append,Qu5,ih,List.append_assoc]
structure RB where
 cf:Int
 cp:Int
 cb:Int
 l:List RF
 hz:Int
 pl:Int
 dr:Int
 ev:Int
def rbV (b:RB):V:=.agg [vi b.cf,vi b.cp,vi b.cb,.lst 4 (b.l.map QFA),vi b.hz,vi b.pl,vi b.dr,vi b.ev]
attribute [go_sem] rbV
def QwW (l:List RF):Int × Int:=l.foldl (fun x f=>(x.1+((f.has.length:Int)-(QcK 0 f.has).length),x.2+(Qt1 f).2)) (0,0)
def Qgb (t i c now:Int) (s:List UInt8) (x:List RF × Int × Bool) (f:RF):List RF × Int × Bool:=
 let y:List RF × Int × Bool:=if x.2.2=false∧t<f.tm then (x.1++[(Qt0 (QAc t c now) i c s).1],(Qt0 (QAc t c now) i c s).2,true) else x
 if f.tm=t then (y.1++[(Qt0 f i c s).1],(Qt0 f i c s).2,true) else (y.1++[f],y.2)
def Qt2 (t i c now:Int) (s:List UInt8) (l:List RF):List RF × Int:=
 let x:=l.foldl (Qgb t i c now s) ([],0,false)
 if x.2.2=true then (x.1,x.2.1) else (x.1++[(Qt0 (QAc t c now) i c s).1],(Qt0 (QAc t c now) i c s).2)
def QAd (b:RB):Bool:=decide (b.cf<b.l.length∨b.cp<(QwW b.l).1∨b.cb<(QwW b.l).2)
def Ql7 (t:Int):Nat→RB→Int→List Int→RB × Int × List Int
 | 0,b,k,e=>(b,k,e)
 | n+1,b,k,e=>if QAd b=true then (match b.l with
  | []=>(b,k,e)
  | f::l=>Ql7 t n { b with l:=l,hz:=f.tm,ev:=b.ev+1 } (if f.tm=t then 6 else k) (e++[f.tm])) else (b,k,e)
def QCV (b:RB) (t i c:Int) (s:List UInt8) (now:Int):RB × Int × List Int:=
 if t≤b.hz then (b,5,[]) else if c<1∨255<c∨i<0∨c≤i then (b,4,[]) else
  let r:=Qt2 t i c now s b.l
  Ql7 t r.1.length { b with l:=r.1 } r.2 []
structure QGm where
 l:List RF
 hz:Int
 out:List (Int × List UInt8)
 gone:List Int
def Ql8 (now delay most:Int):List RF→Int→QGm
 | [],h=>⟨[],h,[],[]⟩
 | f::l,h=>if QcK 0 f.has=[]∧delay≤now-f.t0 then (let r:=Ql8 now delay most l f.tm;⟨r.l,r.hz,(f.tm,(Qt1 f).1)::r.out,r.gone⟩)
  else if most≤now-f.t0 then (let r:=Ql8 now delay most l f.tm;⟨r.l,r.hz,r.out,f.tm::r.gone⟩)
  else ⟨f::l,h,[],[]⟩
def Qyd (b:RB) (now delay most:Int):RB × List (Int × List UInt8) × List Int:=
 let r:=Ql8 now delay most b.l b.hz
 ({ b with l:=r.l,hz:=r.hz,pl:=b.pl+r.out.length,dr:=b.dr+r.gone.length },r.out,r.gone)
end Go.Proofs.YthfocmakkeonoaaGreatDoor
namespace Go.Proofs.YthfocmakkeonoaaGreatDoor
open Go.RowKit
def QjQ (ps:List (Nat × List UInt8)) (n:Nat):List Bool:=(List.range n).map fun i=>(QbP ps i).isSome
def Qt3 (ps:List (Nat × List UInt8)) (n:Nat):List (List UInt8):=(List.range n).map fun i=>(QbP ps i).getD []
def QcE (f:Fr):RF:=⟨f.tm,f.t0,QjQ f.ps f.n,Qt3 f.ps f.n⟩
theorem QeJ (ps:List (Nat × List UInt8)) (n:Nat):(QjQ ps n).length=n:=by simp [QjQ]
theorem QwX (ps:List (Nat × List UInt8)) (n:Nat):(Qt3 ps n).length=n:=by simp [Qt3]
theorem QiN (ps:List (Nat × List UInt8)) (n:Nat):QjQ ps (n+1)=QjQ ps n++[(QbP ps n).isSome]:=by simp [QjQ,List.range_succ]
theorem Qt4 (ps:List (Nat × List UInt8)) (n:Nat):Qt3 ps (n+1)=Qt3 ps n++[(QbP ps n).getD []]:=by simp [Qt3,List.range_succ]
theorem QwY (ps:List (Nat × List UInt8)) {n i:Nat} (h:i<n):(QjQ ps n)[i]? = some (QbP ps i).isSome:=by simp [QjQ,h]
theorem Qt5 (ps:List (Nat × List UInt8)):∀ n,Qu5 (Qt3 ps n)=Qgo ps n
 | 0=>rfl
 | n+1=>by rw [Qt4,QwV,Qt5 ps n,Qgo];simp [Qu5]
theorem Ql9 {p:Nat × List UInt8} {ps:List (Nat × List UInt8)} (h:QbP ps p.1=none):∀ n,(Qgo (p::ps) n).length=(if p.1<n then p.2.length else 0)+(Qgo ps n).length
 | 0=>by simp [Qgo]
 | n+1=>by
  rw [Qgo,Qgo,List.length_append,List.length_append,Ql9 h n,QbP]
  by_cases e:p.1=n
  ·subst e
   rw [if_pos rfl,if_neg (by omega),if_pos (by omega),h]
   simp
   omega
  ·rw [if_neg e]
   by_cases e2:p.1<n
   ·rw [if_pos e2,if_pos (by omega)];omega
   ·rw [if_neg e2,if_neg (by omega)];omega
theorem Qt6:∀ {ps:List (Nat × List UInt8)} {n:Nat},(ps.map (·.1)).Nodup→(∀ p∈ps,p.1<n)→(Qgo ps n).length=Qbo ps
 | [],n,_,_=>by
  have:∀ n,Qgo [] n=[]:=fun n=>by
   induction n with
   | zero=>rfl
   | succ n ih=>rw [Qgo,ih];rfl
  rw [this];rfl
 | p::ps,n,hn,hl=>by
  simp only [List.map_cons,List.nodup_cons] at hn
  have hg:QbP ps p.1=none:=by
   cases hg:QbP ps p.1 with
   | none=>rfl
   | some s=>exact absurd (List.mem_map.2 ⟨_,QeC hg,rfl⟩) hn.1
  rw [Ql9 hg,if_pos (hl p (List.mem_cons_self ..)),Qt6 hn.2 fun q hq=>hl q (List.mem_cons_of_mem _ hq),Qbo]
theorem Qma {p:Nat × List UInt8} {ps:List (Nat × List UInt8)} (h:QbP ps p.1=none):∀ n,(QcK 0 (QjQ (p::ps) n)).length+(if p.1<n then 1 else 0)=(QcK 0 (QjQ ps n)).length
 | 0=>by simp [QjQ,QcK]
 | n+1=>by
  have ih:=Qma h n
  rw [QiN,QiN,Qga,Qga,List.length_append,List.length_append,QbP]
  by_cases e:p.1=n
  ·subst e
   rw [if_neg (by omega)] at ih
   rw [if_pos rfl,if_pos (by omega),h]
   simp [QcK]
   omega
  ·rw [if_neg e]
   by_cases e2:p.1<n
   ·rw [if_pos e2] at ih
    rw [if_pos (by omega)]
    simp only [QeJ]
    omega
   ·rw [if_neg e2] at ih
    rw [if_neg (by omega)]
    simp only [QeJ]
    omega
theorem QoP:∀ n,(QcK 0 (QjQ [] n)).length=n
 | 0=>rfl
 | n+1=>by
  rw [QiN,Qga,List.length_append,QoP n]
  simp [QbP,QcK]
theorem QhA:∀ {ps:List (Nat × List UInt8)} {n:Nat},(ps.map (·.1)).Nodup→(∀ p∈ps,p.1<n)→(QcK 0 (QjQ ps n)).length+ps.length=n
 | [],n,_,_=>by rw [QoP];rfl
 | p::ps,n,hn,hl=>by
  simp only [List.map_cons,List.nodup_cons] at hn
  have hg:QbP ps p.1=none:=by
   cases hg:QbP ps p.1 with
   | none=>rfl
   | some s=>exact absurd (List.mem_map.2 ⟨_,QeC hg,rfl⟩) hn.1
  have h1:=Qma hg n
  rw [if_pos (hl p (List.mem_cons_self ..))] at h1
  have h2:=QhA hn.2 fun q hq=>hl q (List.mem_cons_of_mem _ hq)
  simp only [List.length_cons]
  omega
theorem QiO {f:Fr} (h:f.Ok):QcK 0 (QcE f).has=[]↔QbF f=true:=by
 have h1:=QhA h.nd h.lt
 unfold QbF QcE
 dsimp only
 rw [decide_eq_true_eq,←List.length_eq_zero_iff]
 omega
theorem QoQ {f:Fr} (h:f.Ok):Qt1 (QcE f)=(Qm5 f,(Qbo f.ps:Int)):=by
 have h1:=Qt6 h.nd h.lt
 unfold Qt1
 have h2:Qu5 (QcE f).parts=Qgo f.ps f.n:=Qt5 _ _
 rw [h2,h1]
 refine Prod.ext ?_ rfl
 dsimp only
 unfold Qm5
 by_cases hw:QbF f=true
 ·rw [if_pos ((QiO h).2 hw),if_pos hw]
 ·rw [if_neg (fun q=>hw ((QiO h).1 q)),if_neg hw]
theorem QAe (t:Nat) (c now:Int):QcE (Qg7 t c now)=QAc t c now:=by
 unfold QcE Qg7 QAc
 dsimp only
 congr 1
 ·unfold QjQ
  refine List.ext_getElem (by simp) fun i h1 h2=>?_
  simp [QbP]
 ·unfold Qt3
  refine List.ext_getElem (by simp) fun i h1 h2=>?_
  simp [QbP]
theorem Qt7 {f:Fr} (h:f.Ok) (i c:Int) (s:List UInt8):Qt0 (QcE f) i c s=(QcE (QbU f i c s).1,(QbU f i c s).2):=by
 have hl:(QcE f).has.length=f.n:=QeJ _ _
 by_cases h1:c≠f.n∨i<0∨c≤i
 ·have hu:QbU f i c s=(f,4):=by unfold QbU;rw [if_pos (by omega)]
  rw [hu]
  unfold Qt0
  rw [hl,if_pos h1]
 ·have hi:i.toNat<f.n:=by omega
  have hg:(QcE f).has.getD i.toNat false=(QbP f.ps i.toNat).isSome:=by
   rw [List.getD_eq_getElem?_getD]
   show ((QjQ f.ps f.n)[i.toNat]?).getD false=_
   rw [QwY _ hi]
   rfl
  by_cases h2:(QbP f.ps i.toNat).isSome=true
  ·have hu:QbU f i c s=(f,3):=by unfold QbU;rw [if_neg (by omega),if_pos h2]
   rw [hu]
   unfold Qt0
   rw [hl,if_neg h1,hg,if_pos h2]
  ·have hu:QbU f i c s=({ f with ps:=f.ps++[(i.toNat,s)] },if f.ps.length+1=f.n then 2 else 1):=by unfold QbU;rw [if_neg (by omega),if_neg h2]
   rw [hu]
   unfold Qt0
   rw [hl,if_neg h1,hg,if_neg h2]
   dsimp only
   have hn:QbP f.ps i.toNat=none:=by
    cases hg:QbP f.ps i.toNat with
    | none=>rfl
    | some s=>rw [hg] at h2;exact absurd rfl h2
   have e1:(QjQ f.ps f.n).set i.toNat true=QjQ (f.ps++[(i.toNat,s)]) f.n:=by
    refine List.ext_getElem (by simp [QeJ]) fun k k1 k2=>?_
    rw [List.getElem_set]
    have hk:k<f.n:=by rw [QeJ] at k2;exact k2
    simp only [QjQ,List.getElem_map,List.getElem_range,Qhv]
    by_cases e:i.toNat=k
    ·subst e
     rw [if_pos rfl,hn]
     simp [QbP]
    ·rw [if_neg e]
     cases QbP f.ps k with
     | none=>simp [QbP,e]
     | some x=>simp
   have e2:(Qt3 f.ps f.n).set i.toNat s=Qt3 (f.ps++[(i.toNat,s)]) f.n:=by
    refine List.ext_getElem (by simp [QwX]) fun k k1 k2=>?_
    rw [List.getElem_set]
    simp only [Qt3,List.getElem_map,List.getElem_range,Qhv]
    by_cases e:i.toNat=k
    ·subst e
     rw [if_pos rfl,hn]
     simp [QbP]
    ·rw [if_neg e]
     cases QbP f.ps k with
     | none=>simp [QbP,e]
     | some x=>simp
   have hf:({ QcE f with has:=(QcE f).has.set i.toNat true,parts:=(QcE f).parts.set i.toNat s }:RF)=QcE { f with ps:=f.ps++[(i.toNat,s)] }:=by
    show RF.mk _ _ _ _=RF.mk _ _ _ _
    congr 1
   refine Prod.ext hf ?_
   dsimp only
   have h3:=QhA (ps:=f.ps++[(i.toNat,s)]) (n:=f.n) (by
    rw [List.map_append]
    exact List.nodup_append.2 ⟨h.nd,by simp,fun a ha b hb=>by simp at hb;subst hb;exact fun e=>Qeg hn (e ▸ ha)⟩) (fun p hp=>by
    rcases List.mem_append.1 hp with hp | hp
    ·exact h.lt p hp
    ·simp at hp;subst hp;exact hi)
   rw [List.length_append] at h3
   simp only [List.length_cons,List.length_nil] at h3
   have e3:(QcK 0 ((QcE f).has.set i.toNat true)).length=(QcK 0 (QjQ (f.ps++[(i.toNat,s)]) f.n)).length:=by rw [←e1];rfl
   rw [e3]
   by_cases h4:f.ps.length+1=f.n
   ·rw [if_pos h4,if_pos (by omega)]
   ·rw [if_neg h4,if_neg (by omega)]
def Qnq (b:Bu):RB:=⟨b.cf,b.cp,b.cb,b.l.map QcE,b.hz,b.pl,b.dr,b.ev⟩
theorem QwZ:∀ {l:List Fr},(∀ f∈l,f.Ok)→QwW (l.map QcE)=((Qb1 l:Int),(bts l:Int)):=fun {l} h=>by
 have key:∀ (l:List Fr) (x:Int × Int),(∀ f∈l,f.Ok)→(l.map QcE).foldl (fun x f=>(x.1+((f.has.length:Int)-(QcK 0 f.has).length),x.2+(Qt1 f).2)) x=(x.1+Qb1 l,x.2+bts l):=fun l=>by
  induction l with
  | nil=>intro x _;simp [Qb1,bts]
  | cons f l ih=>
   intro x h
   have hf:=h f (List.mem_cons_self ..)
   rw [List.map_cons,List.foldl_cons,ih _ fun g hg=>h g (List.mem_cons_of_mem _ hg),QoQ hf,Qb1,bts]
   have h1:=QhA hf.nd hf.lt
   have h2:(QcE f).has.length=f.n:=QeJ _ _
   have h3:(QcK 0 (QcE f).has).length=(QcK 0 (QjQ f.ps f.n)).length:=rfl
   rw [h2,h3]
   refine Prod.ext ?_ ?_
   ·dsimp only;omega
   ·dsimp only;omega
 unfold QwW
 rw [key l (0,0) h]
 simp
theorem Qw0 {b:Bu} (h:∀ f∈b.l,f.Ok):QAd (Qnq b)=QdV b:=by
 unfold QAd QdV Qnq
 dsimp only
 rw [QwZ h,List.length_map]
theorem Qmb {t:Nat}:∀ (n:Nat) (b:Bu) (k:Int) (e:List Nat),(∀ f∈b.l,f.Ok) →
  Ql7 t n (Qnq b) k (e.map fun n:Nat=>(n:Int))=(Qnq (Qbh t n b k e).1,(Qbh t n b k e).2.1,(Qbh t n b k e).2.2.map fun n:Nat=>(n:Int))
 | 0,b,k,e,_=>rfl
 | n+1,b,k,e,h=>by
  unfold Ql7 Qbh
  rw [Qw0 h]
  by_cases ho:QdV b=true
  ·rw [if_pos ho,if_pos ho]
   obtain ⟨cf,cp,cb,l,hz,pl,dr,ev⟩:=b
   cases l with
   | nil=>rfl
   | cons f l=>
    have ih:=Qmb (t:=t) n ⟨cf,cp,cb,l,f.tm,pl,dr,ev+1⟩ (if f.tm=t then 6 else k) (e++[f.tm]) fun g hg=>h g (List.mem_cons_of_mem _ hg)
    rw [List.map_append] at ih
    have e1:(if (QcE f).tm=(t:Int) then (6:Int) else k)=if f.tm=t then 6 else k:=by
     show (if (f.tm:Int)=(t:Int) then (6:Int) else k)=_
     by_cases q:f.tm=t
     ·rw [if_pos q,if_pos (by omega)]
     ·rw [if_neg q,if_neg (by omega)]
    show Ql7 t n ⟨cf,cp,cb,l.map QcE,f.tm,pl,dr,ev+1⟩ (if (QcE f).tm=(t:Int) then (6:Int) else k) (e.map (fun n:Nat=>(n:Int))++[(f.tm:Int)])=_
    rw [e1]
    exact ih
  ·rw [if_neg ho,if_neg ho]
theorem QhB {t i c now:Int} {s:List UInt8}:∀ (l:List RF) (acc:List RF) (k:Int) (d:Bool),(∀ f∈l,f.tm≠t∧¬(d=false∧t<f.tm))→l.foldl (Qgb t i c now s) (acc,k,d)=(acc++l,k,d)
 | [],acc,k,d,_=>by simp
 | f::l,acc,k,d,h=>by
  have h1:=h f (List.mem_cons_self ..)
  have hs:Qgb t i c now s (acc,k,d) f=(acc++[f],k,d):=by
   unfold Qgb
   dsimp only
   rw [if_neg h1.1,if_neg h1.2]
  rw [List.foldl_cons,hs,QhB l _ k d fun g hg=>h g (List.mem_cons_of_mem _ hg)]
  simp
theorem Qt8 {b:Bu} {t:Nat} {i c now:Int} {s:List UInt8} (hf:∀ f∈b.l,f.Ok) (hs:b.l.Pairwise fun f g=>f.tm<g.tm) (ht:t<4294967296) (h2:-1099511627776≤now) (h3:now≤1099511627776) :
  Qt2 t i c now s (b.l.map QcE)=((Qdh (QaE b t c now) (atF b.l t) i c s).1.l.map QcE,(Qdh (QaE b t c now) (atF b.l t) i c s).2):=by
 obtain ⟨cf,cp,cb,l,hz,pl,dr,ev⟩:=b
 dsimp only at hf hs ⊢
 have hle:=QjH l t
 have hA:∀ f∈l.take (atF l t),f.tm<t:=fun f hf=>by
  obtain ⟨k,hk,rfl⟩:=List.getElem_of_mem hf
  rw [List.length_take] at hk
  rw [List.getElem_take]
  exact Qos k (by omega) (by omega)
 have hfa:((l.take (atF l t)).map QcE).foldl (Qgb t i c now s) ([],0,false)=((l.take (atF l t)).map QcE,0,false):=by
  rw [QhB _ _ _ _ fun f hf=>?_]
  ·simp
  ·obtain ⟨g,hg,rfl⟩:=List.mem_map.1 hf
   have:=hA g hg
   have e:(QcE g).tm=(g.tm:Int):=rfl
   rw [e]
   exact ⟨by omega,fun q=>by omega⟩
 have hspl:l.map QcE=(l.take (atF l t)).map QcE++(l.drop (atF l t)).map QcE:=by rw [←List.map_append,List.take_append_drop]
 unfold Qt2
 rw [hspl,List.foldl_append,hfa]
 cases hi:isF l t with
 | true=>
  obtain ⟨f,g1,g2⟩:=Qou hi
  have hfr:QaE ⟨cf,cp,cb,l,hz,pl,dr,ev⟩ t c now=⟨cf,cp,cb,l,hz,pl,dr,ev⟩:=by unfold QaE;rw [if_pos hi]
  have hpt:Qdh ⟨cf,cp,cb,l,hz,pl,dr,ev⟩ (atF l t) i c s=(⟨cf,cp,cb,l.set (atF l t) (QbU f i c s).1,hz,pl,dr,ev⟩,(QbU f i c s).2):=by unfold Qdh;dsimp only;rw [g1]
  rw [hfr,hpt]
  obtain ⟨hlt,hge⟩:=List.getElem?_eq_some_iff.1 g1
  have hd:l.drop (atF l t)=f::l.drop (atF l t+1):=by rw [List.drop_eq_getElem_cons hlt,hge]
  have hst:Qgb t i c now s ((l.take (atF l t)).map QcE,0,false) (QcE f)=((l.take (atF l t)).map QcE++[QcE (QbU f i c s).1],(QbU f i c s).2,true):=by
   unfold Qgb
   have e:(QcE f).tm=(t:Int):=by show (f.tm:Int)=t;omega
   dsimp only
   rw [if_pos e,if_neg (fun q=>by omega),Qt7 (hf f (List.mem_of_getElem? g1))]
  rw [hd,List.map_cons,List.foldl_cons,hst,QhB _ _ _ _ fun g hg=>?_]
  ·rw [if_pos rfl]
   refine Prod.ext ?_ rfl
   dsimp only
   rw [List.set_eq_take_append_cons_drop,if_pos hlt,List.map_append,List.map_cons]
   simp
  ·obtain ⟨g',hg',rfl⟩:=List.mem_map.1 hg
   obtain ⟨k,hk,rfl⟩:=List.getElem_of_mem hg'
   rw [List.length_drop] at hk
   rw [List.getElem_drop]
   have:=List.pairwise_iff_getElem.1 hs (atF l t) (atF l t+1+k) hlt (by omega) (by omega)
   rw [hge] at this
   refine ⟨?_,fun q=>by cases q.1⟩
   show ((l[atF l t+1+k].tm:Nat):Int)≠t
   omega
 | false=>
  have hfr:QaE ⟨cf,cp,cb,l,hz,pl,dr,ev⟩ t c now=⟨cf,cp,cb,l.take (atF l t)++Qg7 t c now::l.drop (atF l t),hz,pl,dr,ev⟩:=by unfold QaE;rw [if_neg (by rw [hi];decide)]
  have hno:=QsX c ht h2 h3
  have hN:Qt0 (QAc t c now) i c s=(QcE (QbU (Qg7 t c now) i c s).1,(QbU (Qg7 t c now) i c s).2):=by rw [←QAe,Qt7 hno]
  have hpt:Qdh ⟨cf,cp,cb,l.take (atF l t)++Qg7 t c now::l.drop (atF l t),hz,pl,dr,ev⟩ (atF l t) i c s=(⟨cf,cp,cb,l.take (atF l t)++(QbU (Qg7 t c now) i c s).1::l.drop (atF l t),hz,pl,dr,ev⟩,(QbU (Qg7 t c now) i c s).2):=by
   unfold Qdh
   dsimp only
   rw [Qov _ _ _ hle]
   dsimp only
   refine Prod.ext ?_ rfl
   show Bu.mk _ _ _ _ _ _ _ _=Bu.mk _ _ _ _ _ _ _ _
   congr 1
   have hl1:(l.take (atF l t)).length=atF l t:=by rw [List.length_take];omega
   rw [List.set_append_right _ _ (by omega),hl1,Nat.sub_self]
   rfl
  rw [hfr,hpt,hN]
  cases hdr:l.drop (atF l t) with
  | nil=>simp
  | cons g B=>
   have hlt:atF l t<l.length:=by
    rcases Nat.lt_or_ge (atF l t) l.length with h | h
    ·exact h
    ·rw [List.drop_eq_nil_of_le h] at hdr;cases hdr
   have hge:l[atF l t]=g:=by
    rw [List.drop_eq_getElem_cons hlt] at hdr
    exact (List.cons.inj hdr).1
   have hB:B=l.drop (atF l t+1):=by
    rw [List.drop_eq_getElem_cons hlt] at hdr
    exact (List.cons.inj hdr).2.symm
   have hg1:=Qot hs (atF l t) hlt (Nat.le_refl _)
   have hg2:g.tm≠t:=fun e=>by
    unfold isF at hi
    rw [List.getElem?_eq_getElem hlt,hge] at hi
    exact absurd e (of_decide_eq_false hi)
   rw [hge] at hg1
   have hst:Qgb t i c now s ((l.take (atF l t)).map QcE,0,false) (QcE g)=((l.take (atF l t)).map QcE++[QcE (QbU (Qg7 t c now) i c s).1]++[QcE g],(QbU (Qg7 t c now) i c s).2,true):=by
    unfold Qgb
    have e:(QcE g).tm=(g.tm:Int):=rfl
    dsimp only
    rw [e,if_neg (show ¬(g.tm:Int)=t by omega),if_pos (show false=false∧(t:Int)<g.tm from ⟨rfl,by omega⟩),hN]
   rw [List.map_cons,List.foldl_cons,hst,QhB _ _ _ _ fun x hx=>?_]
   ·rw [if_pos rfl]
    refine Prod.ext ?_ rfl
    simp
   ·obtain ⟨g',hg',rfl⟩:=List.mem_map.1 hx
    rw [hB] at hg'
    obtain ⟨k,hk,rfl⟩:=List.getElem_of_mem hg'
    rw [List.length_drop] at hk
    rw [List.getElem_drop]
    have:=List.pairwise_iff_getElem.1 hs (atF l t) (atF l t+1+k) hlt (by omega) (by omega)
    rw [hge] at this
    refine ⟨?_,fun q=>by cases q.1⟩
    show ((l[atF l t+1+k].tm:Nat):Int)≠t
    omega
end Go.Proofs.YthfocmakkeonoaaGreatDoor
namespace Go.Proofs.YthfocmakkeonoaaGreatDoor
open Go.RowKit
structure EvK (b:Bu):Prop extends b.Cfg where
 fr:∀ f∈b.l,f.Ok
 so:b.l.Pairwise fun f g=>f.tm<g.tm
 hl:∀ f∈b.l,b.hz<f.tm
 h0:-1≤b.hz
 h1:b.hz<4294967296
 e0:0≤b.ev
theorem QoR {t:Nat}:∀ (n:Nat) (b:Bu) (k:Int) (e:List Nat),b.l.length≤n→EvK b →
  EvK (Qbh t n b k e).1∧(Qbh t n b k e).1.ev≤b.ev+b.l.length∧(Qbh t n b k e).1.pl=b.pl∧(Qbh t n b k e).1.dr=b.dr∧(Qbh t n b k e).1.cf=b.cf∧(Qbh t n b k e).1.cp=b.cp∧(Qbh t n b k e).1.cb=b.cb ∧
   QdV (Qbh t n b k e).1=false∧(Qbh t n b k e).2.2.length≤e.length+b.l.length∧(∀ x∈(Qbh t n b k e).2.2,x∈e∨x<4294967296)
 | 0,b,k,e,hn,h=>by
  have hl:b.l=[]:=List.eq_nil_of_length_eq_zero (by omega)
  have ho:QdV b=false:=by
   have g1:=h.f0
   have g2:=h.p0
   have g3:=h.b0
   unfold QdV
   rw [hl]
   exact decide_eq_false (by simp [Qb1,bts];omega)
  refine ⟨h,by show b.ev≤_;omega,rfl,rfl,rfl,rfl,rfl,ho,by show e.length≤_;omega,fun x hx=>.inl hx⟩
 | n+1,b,k,e,hn,h=>by
  unfold Qbh
  by_cases ho:QdV b=true
  ·rw [if_pos ho]
   obtain ⟨cf,cp,cb,l,hz,pl,dr,ev⟩:=b
   cases l with
   | nil=>
    exfalso
    have g1:=h.f0
    have g2:=h.p0
    have g3:=h.b0
    have:=of_decide_eq_true ho
    simp [Qb1,bts] at this
    dsimp only at g1 g2 g3
    omega
   | cons f l=>
    dsimp only
    have hf:=h.fr f (List.mem_cons_self ..)
    obtain ⟨s1,s2⟩:=List.pairwise_cons.1 h.so
    have he0:0≤ev:=h.e0
    have hk:EvK ⟨cf,cp,cb,l,f.tm,pl,dr,ev+1⟩:=⟨⟨h.f0,h.f1,h.p0,h.p1,h.b0,h.b1⟩,fun g hg=>h.fr g (List.mem_cons_of_mem _ hg),s2,fun g hg=>by
     have:=s1 g hg
     dsimp only
     omega,by dsimp only;omega,by have:=hf.tm;dsimp only;omega,by dsimp only;omega⟩
    obtain ⟨q1,q2,q3,q4,q5,q6,q7,q8,q9,q10⟩:=QoR (t:=t) n ⟨cf,cp,cb,l,f.tm,pl,dr,ev+1⟩ (if f.tm=t then 6 else k) (e++[f.tm]) (by simp at hn;exact hn) hk
    refine ⟨q1,?_,q3,q4,q5,q6,q7,q8,?_,fun x hx=>?_⟩
    ·simp only [List.length_cons]
     dsimp only at q2
     omega
    ·rw [List.length_append] at q9
     simp only [List.length_cons,List.length_nil] at q9 ⊢
     omega
    ·rcases q10 x hx with hx | hx
     ·rcases List.mem_append.1 hx with hx | hx
      ·exact .inl hx
      ·simp at hx
       subst hx
       exact .inr hf.tm
     ·exact .inr hx
  ·rw [if_neg ho]
   refine ⟨h,by dsimp only;omega,rfl,rfl,rfl,rfl,rfl,by simpa using ho,by dsimp only;omega,fun x hx=>.inl hx⟩
theorem QiP (b:Bu) (t:Nat) (i c now:Int) (s:List UInt8) :
  (Qdh (QaE b t c now) (atF b.l t) i c s).1 = { b with l:=(Qdh (QaE b t c now) (atF b.l t) i c s).1.l }:=by
 unfold Qdh QaE
 split <;> split <;> rfl
theorem QAf {b:Bu} {K:Int} (h:b.Ok K) {t:Nat} {i c now:Int} {s:List UInt8} (hz:b.hz<t) (ht:t<4294967296) (hs:s.length≤1048576) (h2:-1099511627776≤now) (h3:now≤1099511627776) :
  EvK (Qdh (QaE b t c now) (atF b.l t) i c s).1∧(Qdh (QaE b t c now) (atF b.l t) i c s).1.l.length≤b.l.length+1:=by
 obtain ⟨f,f1,f2,f3,f4,f5,f6,f7⟩:=Qeh (c:=c) h.fr h.so ht h2 h3
 have hp:(Qdh (QaE b t c now) (atF b.l t) i c s).1.l=(QaE b t c now).l.set (atF b.l t) (QbU f i c s).1:=by unfold Qdh;rw [f1]
 rw [QiP,hp]
 refine ⟨⟨⟨h.f0,h.f1,h.p0,h.p1,h.b0,h.b1⟩,fun g hg=>?_,QxZ f5 f1 (Qkw f i c s),fun g hg=>?_,h.h0,h.h1,h.e0⟩,by rw [List.length_set];exact f6⟩
 ·rcases List.mem_or_eq_of_mem_set hg with hg | rfl
  ·exact f4 g hg
  ·exact Qm6 f3 i c hs
 ·dsimp only
  rcases List.mem_or_eq_of_mem_set hg with hg | rfl
  ·rcases f7 g hg with hg | rfl
   ·exact h.hl g hg
   ·show b.hz<(t:Int)
    exact hz
  ·rw [Qkw,f2]
   exact hz
theorem Bu.Ok.len {b:Bu} {K:Int} (h:b.Ok K):b.l.length≤1024:=by
 have h1:=of_decide_eq_false h.no
 have h2:=h.f1
 omega
theorem QCW {b:Bu} {K:Int} (h:b.Ok K) {t:Nat} {i c now:Int} {s:List UInt8} (ht:t<4294967296) (hs:s.length≤1048576) (h2:-1099511627776≤now) (h3:now≤1099511627776) :
  (Qhj b t i c s now).1.Ok (K+1025)∧(Qhj b t i c s now).2.2.length≤1025∧(∀ x∈(Qhj b t i c s now).2.2,x<4294967296) ∧
   QCV (Qnq b) t i c s now=(Qnq (Qhj b t i c s now).1,(Qhj b t i c s now).2.1,(Qhj b t i c s now).2.2.map fun n:Nat=>(n:Int)):=by
 have hok:b.Ok (K+1025):=⟨h.toCfg,h.fr,h.so,h.hl,h.h0,h.h1,h.c0,by have:=h.c1;omega,h.d0,by have:=h.d1;omega,h.e0,by have:=h.e1;omega,h.no⟩
 unfold Qhj QCV
 by_cases hz:(t:Int)≤b.hz
 ·rw [if_pos hz,if_pos (show (t:Int)≤(Qnq b).hz from hz)]
  exact ⟨hok,by simp,by simp,rfl⟩
 ·rw [if_neg hz,if_neg (show ¬(t:Int)≤(Qnq b).hz from hz)]
  cases hb:QA5 i c with
  | true=>
   have hb':c<1∨255<c∨i<0∨c≤i:=of_decide_eq_true hb
   rw [if_pos rfl,if_pos hb']
   exact ⟨hok,by simp,by simp,rfl⟩
  | false=>
   have hb':¬(c<1∨255<c∨i<0∨c≤i):=of_decide_eq_false hb
   rw [if_neg (by decide),if_neg hb']
   obtain ⟨p1,p2⟩:=QAf (i:=i) (c:=c) (s:=s) h (by omega) ht hs h2 h3
   have hr:=Qt8 (b:=b) (t:=t) (i:=i) (c:=c) (now:=now) (s:=s) h.fr h.so ht h2 h3
   have hpf:=QiP b t i c now s
   have hlen:=h.len
   dsimp only
   rw [show (Qnq b).l=b.l.map QcE from rfl,hr]
   dsimp only
   generalize Qdh (QaE b t c now) (atF b.l t) i c s=P at *
   obtain ⟨b2,k2⟩:=P
   dsimp only at *
   have e1:({ Qnq b with l:=b2.l.map QcE }:RB)=Qnq b2:=by
    rw [hpf]
    rfl
   have e2:b2.pl=b.pl∧b2.dr=b.dr∧b2.ev=b.ev:=by rw [hpf];exact ⟨rfl,rfl,rfl⟩
   obtain ⟨q1,q2,q3,q4,q5,q6,q7,q8,q9,q10⟩:=QoR (t:=t) b2.l.length b2 k2 [] (Nat.le_refl _) p1
   refine ⟨⟨q1.toCfg,q1.fr,q1.so,q1.hl,q1.h0,q1.h1,by rw [q3,e2.1];exact h.c0,by rw [q3,e2.1];have:=h.c1;omega,by rw [q4,e2.2.1];exact h.d0,by rw [q4,e2.2.1];have:=h.d1;omega,q1.e0,by have:=h.e1;rw [e2.2.2] at q2;omega,q8⟩,by simp at q9;omega,fun x hx=>by
    rcases q10 x hx with hx | hx
    ·cases hx
    ·exact hx,?_⟩
   have:=Qmb (t:=t) b2.l.length b2 k2 [] p1.fr
   rw [List.length_map,e1]
   exact this
theorem QoS {now delay most:Int}:∀ (l:List Fr) (h:Int),(∀ f∈l,f.Ok) →
  Ql8 now delay most (l.map QcE) h=⟨(Qb4 now delay most l h).l.map QcE,(Qb4 now delay most l h).hz,(Qb4 now delay most l h).out.map (fun p:Nat × List UInt8=>((p.1:Int),p.2)),(Qb4 now delay most l h).gone.map (fun n:Nat=>(n:Int))⟩
 | [],h,_=>rfl
 | f::l,h,hf=>by
  have ho:=hf f (List.mem_cons_self ..)
  have ih:=QoS (now:=now) (delay:=delay) (most:=most) l f.tm fun g hg=>hf g (List.mem_cons_of_mem _ hg)
  have hw:=QiO ho
  have hd:=QoQ ho
  have ht:(QcE f).tm=(f.tm:Int):=rfl
  have ht0:(QcE f).t0=f.t0:=rfl
  rw [List.map_cons,Ql8,Qb4,ht,ht0,ih,hd]
  by_cases h1:QbF f=true∧delay≤now-f.t0
  ·rw [if_pos h1,if_pos ⟨hw.2 h1.1,h1.2⟩]
   rfl
  ·rw [if_neg h1,if_neg (fun q=>h1 ⟨hw.1 q.1,q.2⟩)]
   by_cases h2:most≤now-f.t0
   ·rw [if_pos h2,if_pos h2]
    rfl
   ·rw [if_neg h2,if_neg h2]
    rfl
theorem QoT {now delay most:Int}:∀ (l:List Fr) (h:Int),(∀ f∈l,f.Ok)→l.Pairwise (fun f g=>f.tm<g.tm)→(∀ f∈l,h<f.tm)→-1≤h→h<4294967296 →
  (∀ f∈(Qb4 now delay most l h).l,f∈l∧(Qb4 now delay most l h).hz<f.tm)∧(Qb4 now delay most l h).l.Pairwise (fun f g=>f.tm<g.tm)∧-1≤(Qb4 now delay most l h).hz∧(Qb4 now delay most l h).hz<4294967296 ∧
   (Qb4 now delay most l h).out.length+(Qb4 now delay most l h).gone.length+(Qb4 now delay most l h).l.length=l.length∧(∀ p∈(Qb4 now delay most l h).out,p.1<4294967296)∧(∀ x∈(Qb4 now delay most l h).gone,x<4294967296) ∧
   Qb1 (Qb4 now delay most l h).l≤Qb1 l∧bts (Qb4 now delay most l h).l≤bts l
 | [],h,_,_,_,h0,h1=>by simp [Qb4,h0,h1]
 | f::l,h,hf,hs,hl,h0,h1=>by
  have ho:=hf f (List.mem_cons_self ..)
  obtain ⟨s1,s2⟩:=List.pairwise_cons.1 hs
  have htm:=ho.tm
  obtain ⟨q1,q2,q3,q4,q5,q6,q7,q8,q9⟩:=QoT (now:=now) (delay:=delay) (most:=most) l f.tm (fun g hg=>hf g (List.mem_cons_of_mem _ hg)) s2 (fun g hg=>by have:=s1 g hg;omega) (by omega) (by omega)
  rw [Qb4]
  by_cases c1:QbF f=true∧delay≤now-f.t0
  ·rw [if_pos c1]
   refine ⟨fun g hg=>⟨List.mem_cons_of_mem _ (q1 g hg).1,(q1 g hg).2⟩,q2,q3,q4,by simp only [List.length_cons];omega,fun p hp=>?_,q7,by rw [Qb1];dsimp only;omega,by rw [bts];dsimp only;omega⟩
   rcases List.mem_cons.1 hp with rfl | hp
   ·exact htm
   ·exact q6 p hp
  ·rw [if_neg c1]
   by_cases c2:most≤now-f.t0
   ·rw [if_pos c2]
    refine ⟨fun g hg=>⟨List.mem_cons_of_mem _ (q1 g hg).1,(q1 g hg).2⟩,q2,q3,q4,by simp only [List.length_cons];omega,q6,fun p hp=>?_,by rw [Qb1];dsimp only;omega,by rw [bts];dsimp only;omega⟩
    rcases List.mem_cons.1 hp with rfl | hp
    ·exact htm
    ·exact q7 p hp
   ·rw [if_neg c2]
    exact ⟨fun g hg=>⟨hg,hl g hg⟩,hs,h0,h1,by simp,by simp,by simp,Nat.le_refl _,Nat.le_refl _⟩
theorem Qt9 {b:Bu} {K:Int} (h:b.Ok K) (now delay most:Int) :
  (Qfh b now delay most).1.Ok (K+1025)∧(Qfh b now delay most).2.1.length≤1025∧(Qfh b now delay most).2.2.length≤1025∧(∀ p∈(Qfh b now delay most).2.1,p.1<4294967296)∧(∀ x∈(Qfh b now delay most).2.2,x<4294967296) ∧
   Qyd (Qnq b) now delay most=(Qnq (Qfh b now delay most).1,(Qfh b now delay most).2.1.map (fun p:Nat × List UInt8=>((p.1:Int),p.2)),(Qfh b now delay most).2.2.map (fun n:Nat=>(n:Int))):=by
 have hlen:=h.len
 obtain ⟨q1,q2,q3,q4,q5,q6,q7,q8,q9⟩:=QoT (now:=now) (delay:=delay) (most:=most) b.l b.hz h.fr h.so h.hl h.h0 h.h1
 have hd:=QoS (now:=now) (delay:=delay) (most:=most) b.l b.hz h.fr
 have hno:=of_decide_eq_false h.no
 unfold Qfh Qyd
 dsimp only
 rw [show (Qnq b).l=b.l.map QcE from rfl,show (Qnq b).hz=b.hz from rfl,hd]
 generalize Qb4 now delay most b.l b.hz=r at *
 dsimp only
 refine ⟨⟨⟨h.f0,h.f1,h.p0,h.p1,h.b0,h.b1⟩,fun f hf=>h.fr f (q1 f hf).1,q2,fun f hf=>(q1 f hf).2,q3,q4,by have:=h.c0;dsimp only;omega,by have:=h.c1;dsimp only;omega,by have:=h.d0;dsimp only;omega,by have:=h.d1;dsimp only;omega,h.e0,by have:=h.e1;dsimp only;omega,?_⟩,by omega,by omega,q6,q7,?_⟩
 ·unfold QdV
  exact decide_eq_false (by dsimp only;omega)
 ·simp only [List.length_map]
  rfl
end Go.Proofs.YthfocmakkeonoaaGreatDoor
namespace Go.Proofs.YthfocmakkeonoaaGreatDoor
open Go.RowKit
theorem QAg {b:Bu} {K:Int} (h:b.Ok K) (hK:K≤549755813888) (t:Nat) (i c:Int) (s:List UInt8) (now:Int) (ht:t<4294967296) (hs:s.length≤1048576) (h2:-1099511627776≤now) (h3:now≤1099511627776) :
  Qan Tryz.prog 29 [.ptr 0 0,.ca (.val (vu t)),.ca (.val (.agg [vi i,vi c])),.ca (.val (vs s)),.ca (.val (vi now))] [buO b] (.ca (.val (cmV (Qhj b t i c s now).2.1 (Qhj b t i c s now).2.2))) [buO (Qhj b t i c s now).1]:=by
 unfold Qhj
 by_cases hl:(t:Int)≤b.hz
 ·rw [if_pos hl]
  exact Ql5 b t i c s now hl ht
 rw [if_neg hl]
 cases hb:QA5 i c with
 | true=>
  rw [if_pos rfl]
  exact Qnp b t i c s now (by omega) hb ht
 | false=>
  rw [if_neg (by decide)]
  have hlen:=h.len
  obtain ⟨f,f1,f2,f3,f4,f5,f6,f7⟩:=Qeh (c:=c) h.fr h.so ht h2 h3
  have hfr:Qan Tryz.prog 73 [.ptr 0 0,.ca (.val (vu t)),.ca (.val (vi c)),.ca (.val (vi now))] [buO b] (.ptr 1 0) [buL (QaE b t c now) (QaE b t c now).l.length (Qb1 (QaE b t c now).l) (bts (QaE b t c now).l) (atF b.l t),frO f]:=by
   cases hi:isF b.l t with
   | true=>
    have e:QaE b t c now=b:=by unfold QaE;rw [if_pos hi]
    rw [e] at f1 ⊢
    exact Ql4 b t c now hi f f1 ht (by omega) h.fr h.so
   | false=>
    have e:QaE b t c now = { b with l:=b.l.take (atF b.l t)++Qg7 t c now::b.l.drop (atF b.l t) }:=by unfold QaE;rw [if_neg (by rw [hi];decide)]
    have hfe:f=Qg7 t c now:=by
     rw [e] at f1
     rw [Qov _ _ _ (QjH _ _)] at f1
     exact (Option.some.inj f1).symm
    rw [e]
    exact QkI b t c now hi ht (by omega) h.fr h.so f hfe f3 _ (by rw [hfe])
  have hp:Qdh (QaE b t c now) (atF b.l t) i c s=({ QaE b t c now with l:=(QaE b t c now).l.set (atF b.l t) (QbU f i c s).1 },(QbU f i c s).2):=by
   unfold Qdh
   rw [f1]
  rw [hp]
  dsimp only
  have hc:(QaE b t c now).cf=b.cf∧(QaE b t c now).cp=b.cp∧(QaE b t c now).cb=b.cb∧(QaE b t c now).ev=b.ev:=by
   unfold QaE
   split <;> exact ⟨rfl,rfl,rfl,rfl⟩
  obtain ⟨c1,c2,c3,c4⟩:=hc
  have k0:=h.e0
  have k1:=h.e1
  refine Ql6 b t i c s now (by omega) hb ht hs (QaE b t c now) f (atF b.l t) ⟨⟨by rw [c1];exact h.f0,by rw [c1];exact h.f1,by rw [c2];exact h.p0,by rw [c2];exact h.p1,by rw [c3];exact h.b0,by rw [c3];exact h.b1⟩,by omega,f4,by rw [c4];exact h.e0,by rw [c4];omega⟩ f1 _ ?_ hfr
  rw [List.length_set]
end Go.Proofs.YthfocmakkeonoaaGreatDoor
namespace Go.Proofs.YthfocmakkeonoaaGreatDoor
open Go.RowKit
structure Ld where
 p:Int
 w:Int
 b:Int
 deriving DecidableEq
def QGn (x:Ld):List V:=[vi x.p,vi x.w,vi x.b]
attribute [go_sem] QGn
end Go.Proofs.YthfocmakkeonoaaGreatDoor
namespace Go.Proofs.YthfocmakkeonoaaGreatDoor
open Go.RowKit
end Go.Proofs.YthfocmakkeonoaaGreatDoor
namespace Go.Proofs.YthfocmakkeonoaaGreatDoor
open Go.RowKit
abbrev Qu6 (e:En):List V:=[vi e.id,vb e.up,vi e.rate]
abbrev tbL (t:Tb):List CA:=[.val (vi t.most),.val (vi t.ver),.hd (.rw 268 3 (t.l.map Qu6))]
theorem QE9 (most:Int):Qan Tryz.prog 13 [.ca (.val (vi most))] [] (.ptr 0 0) [tbL ⟨max 1 (min most 15),0,[]⟩]:=by
 refine Qaa Tryz.func13 rfl Tryz.ntmps13 Tryz.results13 ⟨by decide,by simp⟩ fun C hC=>?_
 repeat' first | refine sp_ ?_ | exact ex0 | refine QaC (fun h=>?_) (fun h=>?_) | refine Qav (fun h=>?_) (fun h=>?_) | refine QaB (fun h=>?_) (fun h=>?_) | exact re0 [(7,0)]
end Go.Proofs.YthfocmakkeonoaaGreatDoor
namespace Go.Proofs.YthfocmakkeonoaaGreatDoor
open Go.RowKit
end Go.Proofs.YthfocmakkeonoaaGreatDoor
namespace Go.Proofs.YthfocmakkeonoaaGreatDoor
open Go.RowKit
end Go.Proofs.YthfocmakkeonoaaGreatDoor
namespace Go.Proofs.YthfocmakkeonoaaGreatDoor
open Go.RowKit
theorem QgP (T:Nat) (l:List UInt8):(goX T l).1.length≤l.length:=by
 unfold goX
 split
 ·simp
 ·simp
theorem go8 (s:List UInt8) (T:Nat) (h:s.length≤maxLen):Qan Tryz.prog 122 [.ptr 0 0] [inO (goX T s).1 (goX T s).2] (.ca (.val (vi (vl 1 (goX T s))))) [inO (goX (T+1) s).1 (goX (T+1) s).2]:=by
 have:=rd8 (goX T s) (Nat.le_trans (QgP T s) h)
 rwa [QiB 1 T s (by decide)] at this
theorem QFa (s:List UInt8) (T:Nat) (h:s.length≤maxLen):Qan Tryz.prog 123 [.ptr 0 0] [inO (goX T s).1 (goX T s).2] (.ca (.val (vi (vl 2 (goX T s))))) [inO (goX (T+2) s).1 (goX (T+2) s).2]:=by
 have:=Qs5 (goX T s).1 (goX T s).2 (Nat.le_trans (QgP T s) h)
 have e:=QiB 2 T s (by decide)
 unfold nx at e
 rw [←e]
 exact this
theorem QFb (s:List UInt8) (T:Nat) (h:s.length≤maxLen):Qan Tryz.prog 124 [.ptr 0 0] [inO (goX T s).1 (goX T s).2] (.ca (.val (vu (vl 4 (goX T s))))) [inO (goX (T+4) s).1 (goX (T+4) s).2]:=by
 have:=Qmy (goX T s) (Nat.le_trans (QgP T s) h)
 rwa [QiB 4 T s (by decide)] at this
def rdO (s:List UInt8) (n:Nat):List Int:=(List.range n).map fun i=>vl 4 (goX (12+4 * i) s)
theorem Qw1 (s:List UInt8) (n:Nat):rdO s (n+1)=rdO s n++[vl 4 (goX (12+4 * n) s)]:=by
 unfold rdO
 rw [List.range_succ,List.map_append]
 rfl
theorem QAh (s:List UInt8) (n:Nat):(rdO s n).length=n:=by simp [rdO]
theorem QCX (s:List UInt8) (n:Nat) (h:12+4 * n≤s.length):rdO s n=wds n (s.drop 12):=by
 unfold rdO wds
 apply List.map_congr_left
 intro i hi
 have:=List.mem_range.1 hi
 rw [Qdr 4 _ s (by omega),List.drop_drop]
def r9 (s:List UInt8):List UInt8 × Int:=if Qf0 s=true then (Qct (goX (oth s+4) s).1 (goX (oth s+4) s).2 (4 * vl 2 (goX (oth s+2) s)),QdY (goX (oth s+4) s).1 (goX (oth s+4) s).2 (4 * vl 2 (goX (oth s+2) s))) else goX (oth s) s
def Qu7 (s:List UInt8):Prop:=s.length<oth s∨(Qf0 s=true∧(s.length<oth s+4∨s.length<atD s))
theorem Qye (s:List UInt8) (h:Qu7 s):r9 s=([],2):=by
 unfold r9
 have key:∀ n:Int,0≤n→(Qct ([]:List UInt8) 2 n,QdY ([]:List UInt8) 2 n)=([],2):=by
  intro n hn
  unfold Qct QdY Qhk Qkx
  by_cases h0:n≤(([]:List UInt8).length:Int)
  ·rw [if_pos h0,if_pos h0];simp
  ·rw [if_neg h0,if_neg h0];simp
 by_cases hx:Qf0 s=true
 ·rw [if_pos hx]
  by_cases h4:s.length<oth s+4
  ·have e:goX (oth s+4) s=([],2):=by unfold goX;rw [if_neg (by omega)]
   rw [e]
   exact key _ (by unfold vl;omega)
  ·have e:goX (oth s+4) s=(s.drop (oth s+4),0):=by unfold goX;rw [if_pos (by omega)]
   have ea:atD s=oth s+4+QiC s:=by unfold atD;rw [if_pos hx]
   have hl:s.length<atD s:=by
    rcases h with h | ⟨_,h | h⟩
    ·omega
    ·omega
    ·exact h
   rw [e,Qdr 2 _ s (by omega)]
   have hh:¬(4 * (QaP ((s.drop (oth s+2)).take 2):Int))≤((s.drop (oth s+4)).length:Int):=by
    rw [List.length_drop];unfold QiC at ea;omega
   unfold Qct QdY Qhk Qkx
   dsimp only
   rw [if_neg hh,if_neg hh]
   rfl
 ·rw [if_neg hx]
  have hl:s.length<oth s:=by
   rcases h with h | ⟨h,_⟩
   ·exact h
   ·exact absurd h hx
  unfold goX
  rw [if_neg (by omega)]
theorem Qnr (s:List UInt8) (h:¬Qu7 s):r9 s=(s.drop (atD s),0)∧oth s≤s.length∧atD s≤s.length∧(Qf0 s=true→oth s+4≤s.length∧QbB (goX (oth s+4) s).1 (4 * vl 2 (goX (oth s+2) s))=(s.drop (oth s+4)).take (QiC s)):=by
 unfold Qu7 at h
 rw [not_or,not_and] at h
 obtain ⟨h1,h2⟩:=h
 unfold r9
 by_cases hx:Qf0 s=true
 ·have h3:=h2 hx
  rw [not_or] at h3
  have e:goX (oth s+4) s=(s.drop (oth s+4),0):=by unfold goX;rw [if_pos (by omega)]
  have ea:atD s=oth s+4+QiC s:=by unfold atD;rw [if_pos hx]
  rw [if_pos hx,e,Qdr 2 _ s (by omega)]
  have hx4:(4 * (QaP ((s.drop (oth s+2)).take 2):Int))=((QiC s:Nat):Int):=by unfold QiC;omega
  have hh:((QiC s:Nat):Int)≤((s.drop (oth s+4)).length:Int):=by rw [List.length_drop];omega
  refine ⟨?_,by omega,by omega,fun _=>⟨by omega,?_⟩⟩
  ·unfold Qct QdY
   dsimp only
   rw [hx4,if_pos hh,if_pos hh,Int.toNat_natCast,List.drop_drop,ea]
  ·unfold QbB
   dsimp only
   rw [hx4,if_pos hh,Int.toNat_natCast]
 ·have ea:atD s=oth s:=by unfold atD;rw [if_neg hx]
  rw [if_neg hx,ea]
  refine ⟨?_,by omega,by omega,fun hh=>absurd hh hx⟩
  unfold goX
  rw [if_pos (by omega)]
theorem Qua (x:UInt8):QaP [x]=x.toNat:=by simp [QaP]
theorem Qub (s:List UInt8) (a:Nat) (h:a<s.length):(QaP ((s.drop a).take 1):Int)=((s.getD a 0).toNat:Nat):=by
 rw [List.drop_eq_getElem_cons h,List.take_succ_cons,List.take_zero,Qua,List.getD_eq_getElem?_getD,List.getElem?_eq_getElem h]
 rfl
theorem Quc (s:List UInt8) (hl:s.length≤maxLen):Qan Tryz.prog 62 [.ca (.val (vs s))] [] (.ca (.val (.tup [.agg (p4L (Qbe s).1),vi (Qbe s).2]))) []:=by
 obtain ⟨R,hR⟩:∃ R,R=Qbe s:=⟨_,rfl⟩
 rw [←hR]
 unfold Qbe at hR
 by_cases h12:s.length<12
 ·rw [if_pos h12] at hR
  subst hR
  unfold no4
  refine Qaa Tryz.func62 rfl Tryz.ntmps62 Tryz.results62 ⟨by decide,by simp⟩ fun C hC=>?_
  repeat first | refine sp_ ?_ | exact ex0
  exact re0 []
 rw [if_neg h12] at hR
 have hb0:b0 s<256:=UInt8.toNat_lt _
 have hb1:b1 s<256:=UInt8.toNat_lt _
 have v0:vl 1 (goX 0 s)=(b0 s:Int):=by rw [Qdr 1 0 s (by omega)];exact Qub s 0 (by omega)
 have v1:vl 1 (goX 1 s)=(b1 s:Int):=by rw [Qdr 1 1 s (by omega)];exact Qub s 1 (by omega)
 have c0:=go8 s 0 hl
 rw [v0,←QeF] at c0
 dsimp only [Nat.zero_add] at c0
 have c1:=go8 s 1 hl
 rw [v1] at c1
 dsimp only [Nat.reduceAdd] at c1
 have a192:=QzE (b0 s) hb0
 by_cases h64:b0 s / 64≠2
 ·rw [if_pos h64] at hR
  subst hR
  unfold no4
  refine Qaa Tryz.func62 rfl Tryz.ntmps62 Tryz.results62 ⟨by decide,by simp⟩ fun C hC=>?_
  repeat first | refine sp_ ?_ | exact ex0
  refine Qac Tryz.call121 (Qe0 s) [] ?_
  repeat first | refine sp_ ?_ | exact ex0
  refine Qac Tryz.call122 c0 [(14,0)] ?_
  repeat first | refine sp_ ?_ | exact ex0
  refine Qac Tryz.call122 c1 [(14,0)] ?_
  repeat first | refine sp_ ?_ | exact ex0
  exact re0 []
 rw [if_neg h64] at hR
 have h64':b0 s / 64=2:=by omega
 refine Qaa Tryz.func62 rfl Tryz.ntmps62 Tryz.results62 ⟨by decide,by simp⟩ fun C hC=>?_
 repeat first | refine sp_ ?_ | exact ex0
 refine Qac Tryz.call121 (Qe0 s) [] ?_
 repeat first | refine sp_ ?_ | exact ex0
 refine Qac Tryz.call122 c0 [(14,0)] ?_
 repeat first | refine sp_ ?_ | exact ex0
 refine Qac Tryz.call122 c1 [(14,0)] ?_
 have v2:=Qhl 2 65536 (goX 2 s) (by decide)
 have e2:vl 2 (goX 2 s)=QaP ((s.drop 2).take 2):=Qdr 2 2 s (by omega)
 have e4:vl 4 (goX 4 s)=QaP ((s.drop 4).take 4):=Qdr 4 4 s (by omega)
 have e8:vl 4 (goX 8 s)=QaP ((s.drop 8).take 4):=Qdr 4 8 s (by omega)
 have c2:=QFa s 2 hl
 have c3:=QFb s 4 hl
 have c4:=QFb s 8 hl
 dsimp only [Nat.reduceAdd] at c2 c3 c4
 have m128:(bits .and .i64 (b1 s:Int) 128 != 0)=decide (128≤b1 s):=by
  rw [QzF (b1 s) hb1]
  by_cases h:128≤b1 s
  ·rw [decide_eq_true h];simp only [bne_iff_ne,ne_eq];omega
  ·rw [decide_eq_false h,show b1 s / 128=0 by omega];rfl
 have m16:(bits .and .i64 (b0 s:Int) 16 != 0)=Qf0 s:=by
  rw [QCr (b0 s) hb0]
  unfold Qf0
  by_cases h:b0 s / 16 % 2=1
  ·rw [decide_eq_true h,h];rfl
  ·rw [decide_eq_false h,show b0 s / 16 % 2=0 by omega];rfl
 have m127:(b1 s:Int) % 128=(b1 s % 128:Nat):=by omega
 have m15:=QCs (b0 s) hb0
 obtain ⟨N,hN⟩:∃ N,N=b0 s % 16:=⟨_,rfl⟩
 have hoth:oth s=12+4 * N:=by unfold oth;rw [hN]
 repeat first | refine sp_ ?_ | exact ex0
 refine Qac Tryz.call123 c2 [(14,0)] ?_
 repeat first | refine sp_ ?_ | exact ex0
 refine Qac Tryz.call124 c3 [(14,0)] ?_
 repeat first | refine sp_ ?_ | exact ex0
 refine Qac Tryz.call124 c4 [(14,0)] ?_
 (repeat ((fail_if_success (refine Qat 11 ?_));(first | refine sp_ ?_ | exact ex0)))
 simp only [m128,m16,m127]
 refine Qb2 (7,0) 5 (7,6) 27 1 ?_
 refine sx_ ?_
 refine QaD (α:={j:Nat // j≤N}) (fun j=>[(.s 2,.av (.ptr (2,0) 0 0)),(.o (2,0),.num 11),(.s 3,.av (.val (vi 0))),(.o (14,0),.num 2),(.c (14,0) 0,.av (.val (vs (goX (12+4 * j.1) s).1))),(.c (14,0) 1,.av (.val (vi (goX (12+4 * j.1) s).2))),(.s 4,.av (.ptr (14,0) 0 0)),(.s 5,.av (.val (vi (b0 s)))),(.o (7,0),.num 11),(.c (7,0) 0,.av (.val (vb (decide (128≤b1 s))))),(.c (7,0) 1,.av (.val (vi (b1 s % 128:Nat)))),(.c (7,0) 2,.av (.val (vh (vl 2 (goX 2 s))))),(.c (7,0) 3,.av (.val (vu (vl 4 (goX 4 s))))),(.c (7,0) 4,.av (.val (vu (vl 4 (goX 8 s))))),(.c (7,0) 5,.av (.own (7,6) 0 27 1 ((rdO s j.1).map QdJ))),(.k (7,6),.row 27 1 ((rdO s j.1).map QdJ).length),(.c (7,0) 6,.av (.val (vb (Qf0 s)))),(.c (7,0) 7,.av (.val (vi 0))),(.c (7,0) 8,.av (.val (vs []))),(.c (7,0) 9,.av (.val (vs []))),(.c (7,0) 10,.av (.val (vi 0))),(.s 7,.av (.ptr (7,0) 0 0)),(.s 51,.av (.val (vi N))),(.s 52,.av (.val (vi j.1)))]) (fun j=>N-j.1) ⟨0,Nat.zero_le _⟩ ?_ (fun j=>?_)
 ·refine sx_ ?_
  exact ⟨rfl,rfl,by omega⟩
 ·obtain ⟨j,hj⟩:=j
  dsimp only at hj ⊢
  have hro:=QAh s j
  by_cases hlt:j<N
  ·have c5:=QFb s (12+4 * j) hl
   have e5:12+4 * j+4=12+4 * (j+1):=by omega
   rw [e5] at c5
   have e6:=Qw1 s j
   repeat first | refine sp_ ?_ | exact ex0
   refine Qac Tryz.call124 c5 [(14,0)] ?_
   repeat first | refine sp_ ?_ | exact ex0
   refine Qau ⟨j+1,hlt⟩ ⟨?_,by dsimp only;omega⟩
   rw [e6,List.map_append]
   exact ex0
  ·obtain rfl:N=j:=by omega
   rw [←hoth]
   have hol:=QgP (oth s) s
   (repeat ((fail_if_success (refine Qat 14 ?_));(first | refine sp_ ?_ | exact ex0)))
   refine Qil (α:={x:Int × List UInt8 // (¬Qu7 s→x.1=(Qbq s).profile∧x.2=(Qbq s).ext)∧x.2.length≤maxLen}) (fun x=>[(.s 2,.av (.ptr (2,0) 0 0)),(.o (2,0),.num 11),(.s 3,.av (.val (vi 0))),(.o (14,0),.num 2),(.c (14,0) 0,.av (.val (vs (r9 s).1))),(.c (14,0) 1,.av (.val (vi (r9 s).2))),(.s 4,.av (.ptr (14,0) 0 0)),(.s 5,.av (.val (vi (b0 s)))),(.o (7,0),.num 11),(.c (7,0) 0,.av (.val (vb (decide (128≤b1 s))))),(.c (7,0) 1,.av (.val (vi (b1 s % 128:Nat)))),(.c (7,0) 2,.av (.val (vh (vl 2 (goX 2 s))))),(.c (7,0) 3,.av (.val (vu (vl 4 (goX 4 s))))),(.c (7,0) 4,.av (.val (vu (vl 4 (goX 8 s))))),(.c (7,0) 5,.av (.own (7,6) 0 27 1 ((rdO s N).map QdJ))),(.k (7,6),.row 27 1 ((rdO s N).map QdJ).length),(.c (7,0) 6,.av (.val (vb (Qf0 s)))),(.c (7,0) 7,.av (.val (vi x.1.1))),(.c (7,0) 8,.av (.val (vs x.1.2))),(.c (7,0) 9,.av (.val (vs []))),(.c (7,0) 10,.av (.val (vi 0))),(.s 7,.av (.ptr (7,0) 0 0))]) ?_ (fun x=>?_)
   ·have hbx:(Qbq s).profile=if Qf0 s=true then (QaP ((s.drop (oth s)).take 2):Int) else 0:=rfl
    have hbe:(Qbq s).ext=if Qf0 s=true then (s.drop (oth s+4)).take (QiC s) else []:=rfl
    have hgood:=Qnr s
    have hr9:r9 s=if Qf0 s=true then (Qct (goX (oth s+4) s).1 (goX (oth s+4) s).2 (4 * vl 2 (goX (oth s+2) s)),QdY (goX (oth s+4) s).1 (goX (oth s+4) s).2 (4 * vl 2 (goX (oth s+2) s))) else goX (oth s) s:=rfl
    cases hx:Qf0 s with
    | true=>
     rw [hx,if_pos rfl] at hbx hbe hr9
     have d1:=QFa s (oth s) hl
     have d2:=QFa s (oth s+2) hl
     have w2:=Qhl 2 65536 (goX (oth s+2) s) (by decide)
     have e3:oth s+2+2=oth s+4:=by omega
     rw [e3] at d2
     have d3:=Qe1 (goX (oth s+4) s).1 (goX (oth s+4) s).2 (4 * vl 2 (goX (oth s+2) s)) (Nat.le_trans (QgP _ s) hl) (by unfold maxLen;omega)
     have hel:(QbB (goX (oth s+4) s).1 (4 * vl 2 (goX (oth s+2) s))).length≤maxLen:=by
      have:=QgP (oth s+4) s
      unfold QbB
      split
      ·rw [List.length_take];omega
      ·simp
     have hfe:¬Qu7 s→vl 2 (goX (oth s) s)=(Qbq s).profile∧QbB (goX (oth s+4) s).1 (4 * vl 2 (goX (oth s+2) s))=(Qbq s).ext:=fun hb=>by
      obtain ⟨_,_,_,h4⟩:=hgood hb
      have h5:=h4 hx
      refine ⟨?_,?_⟩
      ·rw [hbx];exact Qdr 2 _ s (by omega)
      ·rw [hbe];exact h5.2
     repeat first | refine sp_ ?_ | exact ex0
     refine Qac Tryz.call123 d1 [(14,0)] ?_
     repeat first | refine sp_ ?_ | exact ex0
     refine Qac Tryz.call123 d2 [(14,0)] ?_
     repeat first | refine sp_ ?_ | exact ex0
     refine Qac Tryz.call125 d3 [(14,0)] ?_
     repeat first | refine sp_ ?_ | exact ex0
     refine Qby ⟨(vl 2 (goX (oth s) s),QbB (goX (oth s+4) s).1 (4 * vl 2 (goX (oth s+2) s))),hfe,hel⟩ ?_
     dsimp only
     rw [hr9]
     exact ex0
    | false=>
     rw [hx,if_neg (by decide)] at hbx hbe hr9
     repeat first | refine sp_ ?_ | exact ex0
     have hfe:¬Qu7 s→(0:Int)=(Qbq s).profile∧([]:List UInt8)=(Qbq s).ext:=fun hb=>⟨hbx.symm,hbe.symm⟩
     refine Qby ⟨(0,[]),hfe,by simp⟩ ?_
     dsimp only
     rw [hr9]
     exact ex0
   ·obtain ⟨⟨F,E⟩,hFE,hEl⟩:=x
    dsimp only at hFE hEl ⊢
    obtain ⟨r1,hr1⟩:∃ r,r=(r9 s).1:=⟨_,rfl⟩
    obtain ⟨r2,hr2⟩:∃ r,r=(r9 s).2:=⟨_,rfl⟩
    rw [←hr1,←hr2]
    have hr1l:r1.length≤maxLen:=by
     rw [hr1]
     by_cases hb:Qu7 s
     ·rw [Qye s hb];simp
     ·rw [(Qnr s hb).1,List.length_drop];omega
    have d1:=Qcz r1 r2
    have d2:=Qe1 r1 r2 r1.length hr1l (by unfold maxLen at *;omega)
    have t1:QbB r1 r1.length=r1:=by unfold QbB;rw [if_pos (by omega),Int.toNat_natCast,List.take_length]
    have t2:Qct r1 r2 r1.length=[]:=by unfold Qct;rw [if_pos (by omega),Int.toNat_natCast,List.drop_length]
    have t3:QdY r1 r2 r1.length=r2:=by unfold QdY;rw [if_pos (by omega)]
    rw [t1,t2,t3] at d2
    have d3:=Qs4 [] r2
    repeat first | refine sp_ ?_ | exact ex0
    refine Qac Tryz.call126 d1 [(14,0)] ?_
    repeat first | refine sp_ ?_ | exact ex0
    refine Qac Tryz.call125 d2 [(14,0)] ?_
    repeat first | refine sp_ ?_ | exact ex0
    refine Qac Tryz.call127 d3 [(14,0)] ?_
    by_cases hb:Qu7 s
    ·rw [Qye s hb] at hr1 hr2
     dsimp only at hr1 hr2
     subst hr1 hr2
     have hR2:R=(no4,2):=by
      rw [hR]
      unfold Qu7 at hb
      split
      ·rfl
      split
      ·rfl
      split
      ·rfl
      rename_i g1 g2 g3
      rcases hb with h | ⟨h1,h | h⟩
      ·exact absurd h g1
      ·exact absurd ⟨h1,h⟩ g2
      ·exact absurd ⟨h1,h⟩ g3
     clear hR
     subst hR2
     unfold no4
     repeat first | refine sp_ ?_ | exact ex0
     exact re0 []
    ·obtain ⟨g1,g2,g3,g4⟩:=Qnr s hb
     rw [g1] at hr1 hr2
     dsimp only at hr1 hr2
     obtain ⟨hF,hE⟩:=hFE hb
     unfold Qu7 at hb
     rw [if_neg (fun h=>hb (.inl h)),if_neg (fun h=>hb (.inr ⟨h.1,.inl h.2⟩)),if_neg (fun h=>hb (.inr ⟨h.1,.inr h.2⟩)),←hr1] at hR
     have hro:rdO s N=wds (b0 s % 16) (s.drop 12):=by rw [←hN];exact QCX s N (by omega)
     have hbase:Qbq s=⟨decide (128≤b1 s),(b1 s % 128:Nat),vl 2 (goX 2 s),vl 4 (goX 4 s),vl 4 (goX 8 s),rdO s N,Qf0 s,F,E,r1,0⟩:=by
      rw [hF,hE,hro,e2,e4,e8,hr1]
      rfl
     rw [hbase] at hR
     subst hr2
     have m32:=QCt (b0 s) hb0
     by_cases h32:b0 s / 32 % 2=1
     ·rw [if_pos h32] at hR
      have d4:=Qtg r1 hr1l
      by_cases hpb:Qco r1
      ·rw [if_pos hpb] at hR d4
       rw [if_pos hpb,if_pos hpb] at d4
       subst hR
       unfold no4
       repeat first | refine sp_ ?_ | exact ex0
       refine Qac Tryz.call128 d4 [] ?_
       repeat first | refine sp_ ?_ | exact ex0
       exact re0 []
      ·rw [if_neg hpb] at hR d4
       rw [if_neg hpb,if_neg hpb] at d4
       subst hR
       repeat first | refine sp_ ?_ | exact ex0
       refine Qac Tryz.call128 d4 [] ?_
       repeat first | refine sp_ ?_ | exact ex0
       exact re0 []
     ·rw [if_neg h32] at hR
      subst hR
      repeat first | refine sp_ ?_ | exact ex0
      exact re0 []
end Go.Proofs.YthfocmakkeonoaaGreatDoor
namespace Go.Proofs.YthfocmakkeonoaaGreatDoor
open Go.RowKit
end Go.Proofs.YthfocmakkeonoaaGreatDoor
