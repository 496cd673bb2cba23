/- Layer 23: a frame in parts, in plain Lean: parts by their places. -/
import Derived.Test.YthfocmakkeonoaaGreatDoorRCz
import Derived.Test.YthfocmakkeonoaaGreatDoorRPz
import Derived.Below
import Derived.WalkKit
import Derived.Test.YthfocmakkeonoaaGreatDoorOpenz
import Derived.Test.YthfocmakkeonoaaGreatDoorTiz
set_option linter.unusedVariables false
set_option linter.unusedSimpArgs false
set_option maxRecDepth 100000
set_option maxHeartbeats 16000000
namespace Go.Proofs.YthfocmakkeonoaaGreatDoor
open Go.RowKit
structure Fr where
 tm:Nat
 n:Nat
 t0:Int
 ps:List (Nat × List UInt8)
def Qbo:List (Nat × List UInt8)→Nat
 | []=>0
 | p::l=>p.2.length+Qbo l
def QbP:List (Nat × List UInt8)→Nat→Option (List UInt8)
 | [],_=>none
 | p::l,i=>if p.1=i then some p.2 else QbP l i
theorem QlP (a b:List (Nat × List UInt8)):Qbo (a++b)=Qbo a+Qbo b:=by
 induction a with
 | nil=>simp [Qbo]
 | cons p a ih=>rw [List.cons_append,Qbo,Qbo,ih];omega
theorem QeC {i:Nat} {s:List UInt8}:∀ {l:List (Nat × List UInt8)},QbP l i=some s→(i,s)∈l
 | [],h=>by cases h
 | p::l,h=>by
  unfold QbP at h
  by_cases e:p.1=i
  ·rw [if_pos e] at h
   cases h
   subst e
   exact List.mem_cons_self ..
  ·rw [if_neg e] at h
   exact List.mem_cons_of_mem _ (QeC h)
theorem Qeg {i:Nat}:∀ {l:List (Nat × List UInt8)},QbP l i=none→i∉l.map (·.1)
 | [],_=>by simp
 | p::l,h=>by
  unfold QbP at h
  by_cases e:p.1=i
  ·rw [if_pos e] at h;cases h
  ·rw [if_neg e] at h
   rw [List.map_cons,List.mem_cons,not_or]
   exact ⟨fun q=>e q.symm,Qeg h⟩
theorem Qhv {i:Nat}:∀ (a b:List (Nat × List UInt8)),QbP (a++b) i=(QbP a i).or (QbP b i)
 | [],b=>by simp [QbP]
 | p::a,b=>by
  rw [List.cons_append,QbP,QbP,Qhv a b]
  split <;> simp
def Qg7 (t:Nat) (c:Int) (now:Int):Fr:=⟨t,(max 1 (min c 255)).toNat,now,[]⟩
def QbF (f:Fr):Bool:=decide (f.ps.length=f.n)
def QbU (f:Fr) (i c:Int) (s:List UInt8):Fr × Int:=
 if c≠f.n∨i<0∨(f.n:Int)≤i then (f,4)
 else if (QbP f.ps i.toNat).isSome=true then (f,3)
 else ({ f with ps:=f.ps++[(i.toNat,s)] },if f.ps.length+1=f.n then 2 else 1)
def Qgo (ps:List (Nat × List UInt8)):Nat→List UInt8
 | 0=>[]
 | n+1=>Qgo ps n++(QbP ps n).getD []
def Qm5 (f:Fr):List UInt8:=if QbF f=true then Qgo f.ps f.n else []
structure Fr.Ok (f:Fr):Prop where
 tm:f.tm<4294967296
 n0:1≤f.n
 n1:f.n≤255
 t0:-1099511627776≤f.t0
 t1:f.t0≤1099511627776
 nd:(f.ps.map (·.1)).Nodup
 lt:∀ p∈f.ps,p.1<f.n
 sz:∀ p∈f.ps,p.2.length≤1048576
theorem Qg8:∀ {n:Nat} {l:List Nat},l.Nodup→(∀ x∈l,x<n)→l.length≤n
 | 0,[],_,_=>Nat.le_refl _
 | 0,x::l,_,h=>absurd (h x (List.mem_cons_self ..)) (by omega)
 | n+1,l,hn,h=>by
  have h1:=Qg8 (n:=n) (l:=l.erase n) (hn.erase n) fun x hx=>by
   have h2:=h x (List.mem_of_mem_erase hx)
   have h3:=((List.Nodup.mem_erase_iff hn).1 hx).1
   omega
  have h4:=List.length_erase (a:=n) (l:=l)
  split at h4 <;> omega
theorem Fr.Ok.len {f:Fr} (h:f.Ok):f.ps.length≤f.n:=by
 have:=Qg8 (n:=f.n) h.nd fun x hx=>by
  obtain ⟨p,hp,rfl⟩:=List.mem_map.1 hx
  exact h.lt p hp
 simpa using this
theorem Qop:∀ {l:List (Nat × List UInt8)},(∀ p∈l,p.2.length≤1048576)→Qbo l≤1048576 * l.length
 | [],_=>by simp [Qbo]
 | p::l,h=>by
  have h1:=h p (List.mem_cons_self ..)
  have h2:=Qop (l:=l) fun q hq=>h q (List.mem_cons_of_mem _ hq)
  rw [Qbo,List.length_cons]
  omega
theorem Fr.Ok.sum {f:Fr} (h:f.Ok):Qbo f.ps≤267386880:=by
 have h1:=Qop h.sz
 have h2:=h.len
 have h3:=h.n1
 omega
theorem QsX {t:Nat} (c:Int) {now:Int} (h1:t<4294967296) (h2:-1099511627776≤now) (h3:now≤1099511627776):(Qg7 t c now).Ok:=
 ⟨h1,by unfold Qg7;dsimp only;omega,by unfold Qg7;dsimp only;omega,h2,h3,by simp [Qg7],by simp [Qg7],by simp [Qg7]⟩
theorem Qm6 {f:Fr} (h:f.Ok) (i c:Int) {s:List UInt8} (hs:s.length≤1048576):(QbU f i c s).1.Ok:=by
 unfold QbU
 split
 ·exact h
 ·rename_i h1
  split
  ·exact h
  ·rename_i h2
   have hn:QbP f.ps i.toNat=none:=by
    cases hg:QbP f.ps i.toNat with
    | none=>rfl
    | some s=>rw [hg] at h2;exact absurd rfl h2
   refine ⟨h.tm,h.n0,h.n1,h.t0,h.t1,?_,fun p hp=>?_,fun p hp=>?_⟩
   ·dsimp only
    rw [List.map_append]
    refine List.nodup_append.2 ⟨h.nd,by simp,fun a ha b hb=>?_⟩
    simp at hb
    subst hb
    exact fun e=>Qeg hn (e ▸ ha)
   ·rcases List.mem_append.1 hp with hp | hp
    ·exact h.lt p hp
    ·simp at hp
     subst hp
     dsimp only
     omega
   ·rcases List.mem_append.1 hp with hp | hp
    ·exact h.sz p hp
    ·simp at hp
     subst hp
     exact hs
theorem Qoq {ps:List (Nat × List UInt8)} (h:∀ p∈ps,p.2.length≤1048576):∀ n,(Qgo ps n).length≤1048576 * n
 | 0=>by simp [Qgo]
 | n+1=>by
  have h1:=Qoq h n
  rw [Qgo,List.length_append]
  cases hg:QbP ps n with
  | none=>simp;omega
  | some s=>
   have:=h _ (QeC hg)
   dsimp only at this
   simp
   omega
def kvF (ps:List (Nat × List UInt8)):List (Value × T):=ps.map fun p=>(.int .i64 p.1,.av (vs p.2))
theorem Qm7 {a b:Int}:Value.int .i64 a=Value.int .i64 b↔a=b:=by
 constructor
 ·intro h;injection h
 ·rintro rfl;rfl
theorem QlQ {ps:List (Nat × List UInt8)} (h:(ps.map (·.1)).Nodup):((kvF ps).map (·.1)).Nodup:=by
 induction ps with
 | nil=>exact List.nodup_nil
 | cons p ps ih=>
  simp only [List.map_cons,List.nodup_cons] at h
  unfold kvF
  simp only [List.map_cons,List.nodup_cons]
  refine ⟨fun hm=>h.1 ?_,ih h.2⟩
  obtain ⟨q,hq,he⟩:=List.mem_map.1 hm
  obtain ⟨r,hr,rfl⟩:=List.mem_map.1 hq
  have he:(r.1:Int)=p.1:=Qm7.1 he
  exact List.mem_map.2 ⟨r,hr,by omega⟩
theorem Qwq:∀ {l:List (Value × T)} {k:Value} {y:T},(l.map (·.1)).Nodup→(k,y)∈l→Qdc l k=some y:=fun {l k y} hn h=>by
 obtain ⟨j,hj,he⟩:=List.getElem_of_mem h
 exact (Qpt hn (by rw [List.getElem?_eq_getElem hj,he])).1
theorem Qm8 {ps:List (Nat × List UInt8)} (hn:(ps.map (·.1)).Nodup) {kvs:List (Value × T)} (hp:kvs.Perm (kvF ps)) {i:Int} (h0:0≤i):Qdc kvs (.int .i64 i)=(QbP ps i.toNat).map fun s=>.av (vs s):=by
 have hk:(kvs.map (·.1)).Nodup:=((hp.map (·.1)).nodup_iff).2 (QlQ hn)
 cases hg:QbP ps i.toNat with
 | some s=>
  refine Qwq hk (hp.mem_iff.2 (List.mem_map.2 ⟨(i.toNat,s),QeC hg,?_⟩))
  dsimp only
  rw [show ((i.toNat:Nat):Int)=i by omega]
 | none=>
  refine Qeu fun h=>Qeg hg ?_
  obtain ⟨q,hq,he⟩:=List.mem_map.1 h
  obtain ⟨p,hp',rfl⟩:=List.mem_map.1 (hp.mem_iff.1 hq)
  have he:(p.1:Int)=i:=Qm7.1 he
  exact List.mem_map.2 ⟨p,hp',by omega⟩
theorem QeD {ps:List (Nat × List UInt8)} {kvs:List (Value × T)} (hp:kvs.Perm (kvF ps)):QeX (.int .i64) (kvs.map (·.1)):=QfG fun k hk=>by
 obtain ⟨q,hq,rfl⟩:=List.mem_map.1 hk
 obtain ⟨p,_,rfl⟩:=List.mem_map.1 (hp.mem_iff.1 hq)
 exact rfl
theorem QzB {ps:List (Nat × List UInt8)} {kvs:List (Value × T)} (hp:kvs.Perm (kvF ps)) {i:Int} (h0:0≤i) (hg:QbP ps i.toNat=none) (s:List UInt8):QcI kvs (.int .i64 i) (.av (vs s))=kvs++[(.int .i64 i,.av (vs s))]∧(kvs++[(Value.int .i64 i,T.av (vs s))]).Perm (kvF (ps++[(i.toNat,s)])):=by
 refine ⟨Qdm fun h=>Qeg hg ?_,?_⟩
 ·obtain ⟨q,hq,he⟩:=List.mem_map.1 h
  obtain ⟨p,hp',rfl⟩:=List.mem_map.1 (hp.mem_iff.1 hq)
  have he:(p.1:Int)=i:=Qm7.1 he
  exact List.mem_map.2 ⟨p,hp',by omega⟩
 ·unfold kvF
  rw [List.map_append]
  have:[(Value.int .i64 i,T.av (vs s))]=[(i.toNat,s)].map fun p:Nat × List UInt8=>(Value.int .i64 p.1,T.av (vs p.2)):=by
   simp
   omega
  rw [←this]
  exact hp.append_right _
theorem QsY {ps:List (Nat × List UInt8)} {kvs:List (Value × T)} (hp:kvs.Perm (kvF ps)):kvs.length=ps.length:=by rw [hp.length_eq];simp [kvF]
def frO (f:Fr):List CA:=[.val (vu f.tm),.val (vi f.n),.val (vi f.t0),.hd (.pm (kvF f.ps)),.val (vi (Qbo f.ps))]
def frT (f:Fr):List T:=[.av (vu f.tm),.av (vi f.n),.av (vi f.t0),.pm (kvF f.ps),.av (vi (Qbo f.ps))]
theorem QCm (f:Fr):(frT f).map Qb5=frO f:=rfl
attribute [go_sem] frO QCm
end Go.Proofs.YthfocmakkeonoaaGreatDoor
namespace Go.Proofs.YthfocmakkeonoaaGreatDoor
open Go.RowKit
structure Bu where
 cf:Int
 cp:Int
 cb:Int
 l:List Fr
 hz:Int
 pl:Int
 dr:Int
 ev:Int
def Qb1:List Fr→Nat
 | []=>0
 | f::l=>f.ps.length+Qb1 l
def bts:List Fr→Nat
 | []=>0
 | f::l=>Qbo f.ps+bts l
theorem Qor (a b:List Fr):Qb1 (a++b)=Qb1 a+Qb1 b:=by
 induction a with
 | nil=>simp [Qb1]
 | cons p a ih=>rw [List.cons_append,Qb1,Qb1,ih];omega
theorem QsZ (a b:List Fr):bts (a++b)=bts a+bts b:=by
 induction a with
 | nil=>simp [bts]
 | cons p a ih=>rw [List.cons_append,bts,bts,ih];omega
structure Bu.Cfg (b:Bu):Prop where
 f0:1≤b.cf
 f1:b.cf≤1024
 p0:1≤b.cp
 p1:b.cp≤65536
 b0:1≤b.cb
 b1:b.cb≤67108864
def QdV (b:Bu):Bool:=decide (b.cf<b.l.length∨b.cp<Qb1 b.l∨b.cb<bts b.l)
structure Bu.Ok (b:Bu) (K:Int):Prop extends b.Cfg where
 fr:∀ f∈b.l,f.Ok
 so:b.l.Pairwise fun f g=>f.tm<g.tm
 hl:∀ f∈b.l,b.hz<f.tm
 h0:-1≤b.hz
 h1:b.hz<4294967296
 c0:0≤b.pl
 c1:b.pl≤K
 d0:0≤b.dr
 d1:b.dr≤K
 e0:0≤b.ev
 e1:b.ev≤K
 no:QdV b=false
def Qbb (f p c:Int):Bu:=⟨max 1 (min f 1024),max 1 (min p 65536),max 1 (min c 67108864),[],-1,0,0,0⟩
theorem Qs0 (f p c:Int):(Qbb f p c).Ok 0:=
 ⟨⟨by unfold Qbb;dsimp only;omega,by unfold Qbb;dsimp only;omega,by unfold Qbb;dsimp only;omega,by unfold Qbb;dsimp only;omega,by unfold Qbb;dsimp only;omega,by unfold Qbb;dsimp only;omega⟩,
  by simp [Qbb],by simp [Qbb],by simp [Qbb],by simp [Qbb],by simp [Qbb],by simp [Qbb],by simp [Qbb],by simp [Qbb],by simp [Qbb],by simp [Qbb],by simp [Qbb],by
   unfold QdV Qbb
   exact decide_eq_false (by simp [Qb1,bts];omega)⟩
def atF (l:List Fr) (t:Nat):Nat:=(l.takeWhile fun f=>decide (f.tm<t)).length
def isF (l:List Fr) (t:Nat):Bool:=match l[atF l t]? with | some f=>decide (f.tm=t) | none=>false
def QaE (b:Bu) (t:Nat) (c now:Int):Bu:=if isF b.l t=true then b else { b with l:=b.l.take (atF b.l t)++Qg7 t c now::b.l.drop (atF b.l t) }
def QDC (b:Bu):Bu:=match b.l with | []=>b | f::l=>{ b with l:=l,hz:=f.tm }
def Qbh (t:Nat):Nat→Bu→Int→List Nat→Bu × Int × List Nat
 | 0,b,k,e=>(b,k,e)
 | n+1,b,k,e=>if QdV b=true then (match b.l with
  | []=>(b,k,e)
  | f::l=>Qbh t n { b with l:=l,hz:=f.tm,ev:=b.ev+1 } (if f.tm=t then 6 else k) (e++[f.tm])) else (b,k,e)
def QA5 (i c:Int):Bool:=decide (c<1∨255<c∨i<0∨c≤i)
def Qdh (b:Bu) (j:Nat) (i c:Int) (s:List UInt8):Bu × Int:=match b.l[j]? with
 | some f=>({ b with l:=b.l.set j (QbU f i c s).1 },(QbU f i c s).2)
 | none=>(b,0)
def Qhj (b:Bu) (t:Nat) (i c:Int) (s:List UInt8) (now:Int):Bu × Int × List Nat:=
 if (t:Int)≤b.hz then (b,5,[]) else if QA5 i c=true then (b,4,[]) else
  let r:=Qdh (QaE b t c now) (atF b.l t) i c s
  Qbh t r.1.l.length r.1 r.2 []
structure Ply where
 l:List Fr
 hz:Int
 out:List (Nat × List UInt8)
 gone:List Nat
def Qb4 (now delay most:Int):List Fr→Int→Ply
 | [],h=>⟨[],h,[],[]⟩
 | f::l,h=>if QbF f=true∧delay≤now-f.t0 then (let r:=Qb4 now delay most l f.tm;⟨r.l,r.hz,(f.tm,Qm5 f)::r.out,r.gone⟩)
  else if most≤now-f.t0 then (let r:=Qb4 now delay most l f.tm;⟨r.l,r.hz,r.out,f.tm::r.gone⟩)
  else ⟨f::l,h,[],[]⟩
def Qfh (b:Bu) (now delay most:Int):Bu × List (Nat × List UInt8) × List Nat:=
 let r:=Qb4 now delay most b.l b.hz
 ({ b with l:=r.l,hz:=r.hz,pl:=b.pl+r.out.length,dr:=b.dr+r.gone.length },r.out,r.gone)
theorem QjH (l:List Fr) (t:Nat):atF l t≤l.length:=by
 unfold atF
 exact (List.takeWhile_sublist _).length_le
theorem Qos {l:List Fr} {t:Nat}:∀ i (h:i<l.length),i<atF l t→(l[i]'h).tm<t:=by
 induction l with
 | nil=>intro i h;simp at h
 | cons f l ih=>
  intro i h hi
  unfold atF at hi
  rw [List.takeWhile_cons] at hi
  by_cases hf:f.tm<t
  ·rw [if_pos (by simpa using hf)] at hi
   cases i with
   | zero=>simpa using hf
   | succ i=>
    have:=ih i (by simpa using h) (by unfold atF;simpa using hi)
    simpa using this
  ·rw [if_neg (by simpa using hf)] at hi
   simp at hi
theorem Qot {l:List Fr} {t:Nat} (hs:l.Pairwise fun f g=>f.tm<g.tm):∀ i (h:i<l.length),atF l t≤i→t≤(l[i]'h).tm:=by
 induction l with
 | nil=>intro i h;simp at h
 | cons f l ih=>
  intro i h hi
  obtain ⟨h1,h2⟩:=List.pairwise_cons.1 hs
  unfold atF at hi
  rw [List.takeWhile_cons] at hi
  by_cases hf:f.tm<t
  ·rw [if_pos (by simpa using hf)] at hi
   cases i with
   | zero=>simp at hi
   | succ i=>
    have:=ih h2 i (by simpa using h) (by unfold atF;simpa using hi)
    simpa using this
  ·cases i with
   | zero=>simp;omega
   | succ i=>
    have:=h1 _ (List.getElem_mem (by simpa using h:i<l.length))
    simp
    omega
theorem Qm9 {l:List Fr} (h:∀ f∈l,f.Ok):Qb1 l≤255 * l.length:=by
 induction l with
 | nil=>simp [Qb1]
 | cons f l ih=>
  have h1:=(h f (List.mem_cons_self ..)).len
  have h2:=(h f (List.mem_cons_self ..)).n1
  have h3:=ih fun g hg=>h g (List.mem_cons_of_mem _ hg)
  rw [Qb1,List.length_cons]
  omega
theorem Qs1 {l:List Fr} (h:∀ f∈l,f.Ok):bts l≤267386880 * l.length:=by
 induction l with
 | nil=>simp [bts]
 | cons f l ih=>
  have h1:=(h f (List.mem_cons_self ..)).sum
  have h3:=ih fun g hg=>h g (List.mem_cons_of_mem _ hg)
  rw [bts,List.length_cons]
  omega
theorem Qkv {f g:Fr}:∀ {l:List Fr} {i:Nat},l[i]? = some f→Qb1 (l.set i g)+f.ps.length=Qb1 l+g.ps.length
 | [],i,h=>by simp at h
 | x::l,0,h=>by
  simp at h
  subst h
  simp [Qb1]
  omega
 | x::l,i+1,h=>by
  have:=Qkv (l:=l) (i:=i) (g:=g) (by simpa using h)
  simp only [List.set_cons_succ,Qb1]
  omega
theorem Qna {f g:Fr}:∀ {l:List Fr} {i:Nat},l[i]? = some f→bts (l.set i g)+Qbo f.ps=bts l+Qbo g.ps
 | [],i,h=>by simp at h
 | x::l,0,h=>by
  simp at h
  subst h
  simp [bts]
  omega
 | x::l,i+1,h=>by
  have:=Qna (l:=l) (i:=i) (g:=g) (by simpa using h)
  simp only [List.set_cons_succ,bts]
  omega
theorem Qou {l:List Fr} {t:Nat} (h:isF l t=true):∃ f,l[atF l t]? = some f∧f.tm=t:=by
 unfold isF at h
 cases hg:l[atF l t]? with
 | none=>rw [hg] at h;cases h
 | some f=>rw [hg] at h;exact ⟨f,rfl,of_decide_eq_true h⟩
theorem Qov {α:Type} (l:List α) (i:Nat) (x:α) (h:i≤l.length):(l.take i++x::l.drop i)[i]? = some x:=by
 rw [List.getElem?_append_right (by rw [List.length_take];omega),List.length_take,show i-min i l.length=0 by omega]
 rfl
theorem Qnb {α:Type} (l:List α) (i:Nat) (x:α):(l.take i++x::l.drop i).length=l.length+1:=by
 simp only [List.length_append,List.length_cons,List.length_take,List.length_drop]
 omega
theorem QCn {l:List Fr} {t:Nat} (hs:l.Pairwise fun f g=>f.tm<g.tm) (hn:isF l t=false) (x:Fr) (hx:x.tm=t):(l.take (atF l t)++x::l.drop (atF l t)).Pairwise fun f g=>f.tm<g.tm:=by
 have h1:∀ f∈l.take (atF l t),f.tm<t:=fun f hf=>by
  obtain ⟨k,hk,rfl⟩:=List.getElem_of_mem hf
  rw [List.length_take] at hk
  rw [List.getElem_take]
  exact Qos k (by omega) (by omega)
 have h2:∀ f∈l.drop (atF l t),t<f.tm:=fun f hf=>by
  obtain ⟨k,hk,rfl⟩:=List.getElem_of_mem hf
  rw [List.length_drop] at hk
  rw [List.getElem_drop]
  have h3:=Qot hs (atF l t) (by omega) (Nat.le_refl _)
  have h4:l[atF l t].tm≠t:=fun e=>by
   unfold isF at hn
   rw [List.getElem?_eq_getElem (by omega)] at hn
   exact absurd e (of_decide_eq_false hn)
  cases k with
  | zero=>simp only [Nat.add_zero];omega
  | succ k=>
   have:=List.pairwise_iff_getElem.1 hs (atF l t) (atF l t+(k+1)) (by omega) (by omega) (by omega)
   omega
 have h3:(l.take (atF l t)++l.drop (atF l t)).Pairwise fun f g=>f.tm<g.tm:=by rw [List.take_append_drop];exact hs
 obtain ⟨h4,h5,h6⟩:=List.pairwise_append.1 h3
 refine List.pairwise_append.2 ⟨h4,List.pairwise_cons.2 ⟨fun f hf=>by have:=h2 f hf;omega,h5⟩,fun f hf g hg=>?_⟩
 rcases List.mem_cons.1 hg with rfl | hg
 ·have:=h1 f hf;omega
 ·exact h6 f hf g hg
theorem Qeh {b:Bu} {t:Nat} {c now:Int} (hf:∀ f∈b.l,f.Ok) (hs:b.l.Pairwise fun f g=>f.tm<g.tm) (ht:t<4294967296) (h2:-1099511627776≤now) (h3:now≤1099511627776) :
  ∃ f,(QaE b t c now).l[atF b.l t]? = some f∧f.tm=t∧f.Ok∧(∀ f∈(QaE b t c now).l,f.Ok)∧(QaE b t c now).l.Pairwise (fun f g=>f.tm<g.tm)∧(QaE b t c now).l.length≤b.l.length+1 ∧
   (∀ f∈(QaE b t c now).l,f∈b.l∨f=Qg7 t c now):=by
 unfold QaE
 cases h:isF b.l t with
 | true=>
  rw [if_pos rfl]
  obtain ⟨f,h1,h4⟩:=Qou h
  exact ⟨f,h1,h4,hf f (List.mem_of_getElem? h1),hf,hs,by omega,fun f hf=>.inl hf⟩
 | false=>
  rw [if_neg (by decide)]
  dsimp only
  have ho:=QsX c ht h2 h3
  have hm:∀ f∈b.l.take (atF b.l t)++Qg7 t c now::b.l.drop (atF b.l t),f∈b.l∨f=Qg7 t c now:=fun f hf'=>by
   rcases List.mem_append.1 hf' with h | h
   ·exact .inl (List.mem_of_mem_take h)
   ·rcases List.mem_cons.1 h with rfl | h
    ·exact .inr rfl
    ·exact .inl (List.mem_of_mem_drop h)
  refine ⟨Qg7 t c now,Qov _ _ _ (QjH _ _),rfl,ho,fun f hf'=>?_,QCn hs h _ rfl,by rw [Qnb];omega,hm⟩
  rcases hm f hf' with h | rfl
  ·exact hf f h
  ·exact ho
theorem QxZ {f g:Fr}:∀ {l:List Fr} {i:Nat},l.Pairwise (fun f g=>f.tm<g.tm)→l[i]? = some f→g.tm=f.tm→(l.set i g).Pairwise fun f g=>f.tm<g.tm:=fun {l i} hs h he=>by
 rw [List.pairwise_iff_getElem] at hs ⊢
 intro a b ha hb hab
 rw [List.length_set] at ha hb
 obtain ⟨hi,hfi⟩:=List.getElem?_eq_some_iff.1 h
 have key:∀ k (hk:k<l.length),((l.set i g)[k]'(by rw [List.length_set];exact hk)).tm=(l[k]).tm:=fun k hk=>by
  rw [List.getElem_set]
  split
  ·rename_i e
   subst e
   rw [hfi,he]
  ·rfl
 rw [key a ha,key b hb]
 exact hs a b ha hb hab
theorem Qkw (f:Fr) (i c:Int) (s:List UInt8):(QbU f i c s).1.tm=f.tm:=by
 unfold QbU
 split
 ·rfl
 ·split <;> rfl
end Go.Proofs.YthfocmakkeonoaaGreatDoor
namespace Go.Proofs.YthfocmakkeonoaaGreatDoor
def QdW (n lo hi:Int):Int:=max lo (min n hi)
def QdX (n:Int):Int:=QdW n 0 1099511627776
def Qx0 (a b:Int):Int:=max (a-b) (b-a)
theorem QeE (n lo hi:Int):lo≤QdW n lo hi:=by unfold QdW;omega
theorem QfW (n lo hi:Int) (h:lo≤hi):QdW n lo hi≤hi:=by unfold QdW;omega
structure J15 where
 sc:Int
 tr:Int
 has:Bool
def Qp4 (j:J15) (sent came:Int):J15:=
 let t:=QdX came-QdX sent
 let s:=QdW j.sc 0 17592186044416
 ⟨if j.has=true then s+(Qx0 t (QdW j.tr (-1099511627776) 1099511627776)-(s+8) / 16) else s,t,true⟩
def Qg9 (j:J15):Int:=QdW j.sc 0 17592186044416 / 16
end Go.Proofs.YthfocmakkeonoaaGreatDoor
namespace Go.Proofs.YthfocmakkeonoaaGreatDoor
def QaK (n:Int):Nat→List UInt8
 | 0=>[]
 | k+1=>UInt8.ofNat ((n / 256 ^ k) % 256).toNat::QaK n k
def QaP (l:List UInt8):Nat:=l.foldl (fun n b=>256 * n+b.toNat) 0
theorem Qaj (n:Int) (k:Nat):(QaK n k).length=k:=by
 induction k with
 | zero=>rfl
 | succ k ih=>simp [QaK,ih]
theorem Qs2 (l:List UInt8) (b:UInt8):QaP (l++[b])=256 * QaP l+b.toNat:=by
 unfold QaP;rw [List.foldl_append];rfl
theorem Qp5 (l:List UInt8) (a:Nat):l.foldl (fun n b=>256 * n+b.toNat) a=a * 256 ^ l.length+QaP l:=by
 induction l generalizing a with
 | nil=>simp [QaP]
 | cons b l ih=>
  unfold QaP
  simp only [List.foldl_cons,List.length_cons]
  rw [ih,ih (256 * 0+b.toNat),Nat.pow_succ]
  simp only [Nat.mul_zero,Nat.zero_add,Nat.add_mul]
  rw [Nat.mul_comm (256 ^ l.length) 256,←Nat.mul_assoc,Nat.mul_comm a 256,Nat.add_assoc]
theorem QfX (b:UInt8) (l:List UInt8):QaP (b::l)=b.toNat * 256 ^ l.length+QaP l:=by
 have:=Qp5 l (256 * 0+b.toNat)
 unfold QaP at *
 simpa using this
theorem Qb9 (l:List UInt8):QaP l<256 ^ l.length:=by
 induction l with
 | nil=>simp [QaP]
 | cons b l ih=>
  rw [QfX,List.length_cons,Nat.pow_succ]
  have:=b.toNat_lt
  have h:b.toNat * 256 ^ l.length≤255 * 256 ^ l.length:=Nat.mul_le_mul_right _ (by omega)
  omega
theorem QjI (x:Int):(UInt8.ofNat (x % 256).toNat).toNat=(x % 256).toNat:=by
 rw [UInt8.toNat_ofNat']
 have h1:=Int.emod_nonneg x (show (256:Int)≠0 by decide)
 have h2:=Int.emod_lt_of_pos x (show (0:Int)<256 by decide)
 exact Nat.mod_eq_of_lt (by omega)
theorem Qhw (k:Nat):((256 ^ k:Nat):Int)=(256:Int) ^ k:=by simp [Int.natCast_pow]
theorem Qow (k:Nat):(0:Int)<256 ^ k:=Int.pow_pos (by decide)
theorem Qiz (n:Int) (k:Nat):(QaP (QaK n k):Int)=n % 256 ^ k:=by
 induction k with
 | zero=>simp [QaK,QaP,Int.emod_one]
 | succ k ih=>
  rw [QaK,QfX,Qaj,Int.natCast_add,Int.natCast_mul,ih,QjI,Qhw,Int.pow_succ]
  have h1:=Int.emod_nonneg (n / 256 ^ k) (show (256:Int)≠0 by decide)
  rw [Int.toNat_of_nonneg h1]
  have hp:=Qow k
  have e1:=Int.emod_add_mul_ediv n (256 ^ k)
  have e2:=Int.emod_add_mul_ediv (n / 256 ^ k) 256
  have hd:n / (256 ^ k * 256)=n / 256 ^ k / 256:=by rw [Int.ediv_ediv_of_nonneg (by omega)]
  have e3:=Int.emod_add_mul_ediv n (256 ^ k * 256)
  rw [hd] at e3
  have e4:(256:Int) ^ k * 256 * (n / 256 ^ k / 256)=256 ^ k * (256 * (n / 256 ^ k / 256)):=by rw [Int.mul_assoc]
  have e5:(256:Int) ^ k * (n / 256 ^ k)=256 ^ k * (n / 256 ^ k % 256)+256 ^ k * (256 * (n / 256 ^ k / 256)):=by
   rw [←Int.mul_add,e2]
  rw [Int.mul_comm (n / 256 ^ k % 256)]
  omega
theorem Qox (n:Int) (k m:Nat) (h:k≤m):QaK (n % 256 ^ m) k=QaK n k:=by
 induction k with
 | zero=>rfl
 | succ k ih=>
  have ih:=ih (by omega)
  unfold QaK
  rw [ih]
  congr 3
  obtain ⟨j,rfl⟩:∃ j,m=k+1+j:=⟨m-(k+1),by omega⟩
  have hp:=Qow k
  have e:(256:Int) ^ (k+1+j)=256 ^ k * (256 * 256 ^ j):=by rw [Int.pow_add,Int.pow_succ,Int.mul_assoc]
  have h1:=Int.emod_add_mul_ediv n (256 ^ (k+1+j))
  rw [e] at h1 ⊢
  have h2:n / 256 ^ k=n % (256 ^ k * (256 * 256 ^ j)) / 256 ^ k+256 * 256 ^ j * (n / (256 ^ k * (256 * 256 ^ j))):=by
   conv=>lhs;rw [←h1]
   rw [Int.mul_assoc (256 ^ k),Int.add_mul_ediv_left _ _ (by omega)]
  rw [h2,Int.mul_assoc 256,Int.add_mul_emod_self_left]
theorem Qs3 (l:List UInt8):QaK (QaP l) l.length=l:=by
 induction l with
 | nil=>rfl
 | cons b l ih=>
  rw [List.length_cons,QaK]
  have hlt:=Qb9 l
  have hb:=b.toNat_lt
  have hp:0<256 ^ l.length:=Nat.pow_pos (by omega)
  have e1:((QaP (b::l):Nat):Int) / 256 ^ l.length=b.toNat:=by
   rw [←Qhw,←Int.natCast_ediv,QfX,Nat.mul_comm,Nat.mul_add_div hp,Nat.div_eq_of_lt hlt,Nat.add_zero]
  have e2:QaK (QaP (b::l)) l.length=QaK (QaP l) l.length:=by
   rw [←Qox _ l.length l.length (Nat.le_refl _),←Qhw,←Int.natCast_emod,QfX]
   rw [Nat.add_comm,Nat.add_mul_mod_self_right,Nat.mod_eq_of_lt hlt]
  rw [e1,e2,ih]
  congr 1
  have:((b.toNat:Int) % 256).toNat=b.toNat:=by omega
  rw [this]
  exact UInt8.ofNat_toNat
end Go.Proofs.YthfocmakkeonoaaGreatDoor
namespace Go.Proofs.YthfocmakkeonoaaGreatDoor
open Go.RowKit
abbrev inO (l:List UInt8) (e:Int):List CA:=[.val (vs l),.val (vi e)]
abbrev QeZ (l:List UInt8):List CA:=[.own 5 1 (l.map QaG)]
def Qhk (l:List UInt8) (e f:Int):List UInt8:=if e=0∧f≠0 then [] else l
def Qkx (e f:Int):Int:=if e=0∧f≠0 then f else e
def QbB (l:List UInt8) (n:Int):List UInt8:=if n≤l.length then l.take n.toNat else []
def Qct (l:List UInt8) (e n:Int):List UInt8:=if n≤l.length then l.drop n.toNat else Qhk l e 2
def QdY (l:List UInt8) (e n:Int):Int:=if n≤l.length then e else Qkx e 2
def Qx1 (l:List UInt8) (e:Int):Int:=if l=[] then e else 1
theorem Qe0 (l:List UInt8):Qan Tryz.prog 121 [.ca (.val (vs l))] [] (.ptr 0 0) [inO l 0]:=by
 refine Qaa Tryz.func121 rfl Tryz.ntmps121 Tryz.results121 ⟨by decide,by simp⟩ fun C hC=>?_
 repeat first | refine sp_ ?_ | exact ex0
 exact re0 [(5,0)]
theorem Qcz (l:List UInt8) (e:Int):Qan Tryz.prog 126 [.ptr 0 0] [inO l e] (.ca (.val (vi l.length))) [inO l e]:=by
 refine Qaa Tryz.func126 rfl Tryz.ntmps126 Tryz.results126 ⟨by decide,by simp⟩ fun C hC=>?_
 repeat first | refine sp_ ?_ | exact ex0
 exact re0 []
theorem Qs4 (l:List UInt8) (e:Int):Qan Tryz.prog 127 [.ptr 0 0] [inO l e] (.ca (.val (vi e))) [inO l e]:=by
 refine Qaa Tryz.func127 rfl Tryz.ntmps127 Tryz.results127 ⟨by decide,by simp⟩ fun C hC=>?_
 repeat first | refine sp_ ?_ | exact ex0
 exact re0 []
theorem QCo (l:List UInt8) (e:Int):Qan Tryz.prog 242 [.ptr 0 0] [inO l e] (.ca (.val (vi (Qx1 l e)))) [inO l e]:=by
 refine Qaa Tryz.func242 rfl Tryz.ntmps242 Tryz.results242 ⟨by decide,by simp⟩ fun C hC=>?_
 repeat first | refine sp_ ?_ | exact ex0
 (first | refine QaC (fun h=>?_) (fun h=>?_) | refine Qav (fun h=>?_) (fun h=>?_) | refine QaB (fun h=>?_) (fun h=>?_))
 ·repeat first | refine sp_ ?_ | exact ex0
  (refine Qap [] ?_;simp (decide:=true) (disch:=omega) only [go_sem,↓reduceIte,↓Qad])
  all_goals simp_all [Qx1]
 ·repeat first | refine sp_ ?_ | exact ex0
  (refine Qap [] ?_;simp (decide:=true) (disch:=omega) only [go_sem,↓reduceIte,↓Qad])
  all_goals simp_all [Qx1]
theorem QzC (l:List UInt8) (e f:Int):Qan Tryz.prog 174 [.ptr 0 0,.ca (.val (vi f))] [inO l e] (.ca (.val (.tup []))) [inO (Qhk l e f) (Qkx e f)]:=by
 refine Qaa Tryz.func174 rfl Tryz.ntmps174 Tryz.results174 ⟨by decide,by simp⟩ fun C hC=>?_
 rcases h1:(e == 0) with _ | _
 ·repeat first | refine sp_ ?_ | exact ex0
  simp only [h1]
  repeat first | refine sp_ ?_ | exact ex0
  (refine Qap [] ?_;simp (decide:=true) (disch:=omega) only [go_sem,↓reduceIte,↓Qad])
  all_goals simp_all [Qhk,Qkx]
 ·repeat first | refine sp_ ?_ | exact ex0
  simp only [h1]
  repeat first | refine sp_ ?_ | exact ex0
  (first | refine QaC (fun h=>?_) (fun h=>?_) | refine Qav (fun h=>?_) (fun h=>?_) | refine QaB (fun h=>?_) (fun h=>?_))
  ·repeat first | refine sp_ ?_ | exact ex0
   (refine Qap [] ?_;simp (decide:=true) (disch:=omega) only [go_sem,↓reduceIte,↓Qad])
   all_goals simp_all [Qhk,Qkx]
  ·repeat first | refine sp_ ?_ | exact ex0
   (refine Qap [] ?_;simp (decide:=true) (disch:=omega) only [go_sem,↓reduceIte,↓Qad])
   all_goals simp_all [Qhk,Qkx]
theorem Qe1 (l:List UInt8) (e n:Int) (hl:l.length≤maxLen) (hn:0≤n∧n≤maxLen):Qan Tryz.prog 125 [.ptr 0 0,.ca (.val (vi n))] [inO l e] (.ca (.val (vs (QbB l n)))) [inO (Qct l e n) (QdY l e n)]:=by
 unfold maxLen at *
 refine Qaa Tryz.func125 rfl Tryz.ntmps125 Tryz.results125 ⟨by decide,by simp⟩ fun C hC=>?_
 repeat first | refine sp_ ?_ | exact ex0
 (first | refine QaC (fun h=>?_) (fun h=>?_) | refine Qav (fun h=>?_) (fun h=>?_) | refine QaB (fun h=>?_) (fun h=>?_))
 ·repeat first | refine sp_ ?_ | exact ex0
  refine Qac Tryz.call174 (QzC l e 2) [(1000,0)] ?_
  refine sx_ ?_
  repeat first | refine sp_ ?_ | exact ex0
  (refine Qap [] ?_;simp (decide:=true) (disch:=omega) only [go_sem,↓reduceIte,↓Qad])
  have h':¬n≤l.length:=by omega
  simp only [QbB,Qct,QdY,if_neg h',and_self]
 ·repeat first | refine sp_ ?_ | exact ex0
  (refine Qap [] ?_;simp (decide:=true) (disch:=omega) only [go_sem,↓reduceIte,↓Qad])
  have h':n≤l.length:=by omega
  try rw [show max 0 n=n by omega]
  simp only [QbB,Qct,QdY,if_pos h',and_true,true_and]
  try exact List.take_of_length_le (by simp)
theorem QfY (l:List UInt8) (e n:Int) (hl:l.length≤maxLen) (hn:0≤n∧n≤4):Qan Tryz.prog 173 [.ptr 0 0,.ca (.val (vi n))] [inO l e] (.ca (.val (vu (QaP (QbB l n))))) [inO (Qct l e n) (QdY l e n)]:=by
 refine Qaa Tryz.func173 rfl Tryz.ntmps173 Tryz.results173 ⟨by decide,by simp⟩ fun C hC=>?_
 repeat first | refine sp_ ?_ | exact ex0
 refine Qac Tryz.call125 (Qe1 l e n hl (by unfold maxLen;omega)) [(1000,0)] ?_
 refine sx_ ?_
 repeat first | refine sp_ ?_ | exact ex0
 generalize hT:QbB l n=T
 have hTn:T.length≤4:=by
  subst hT;unfold QbB;split
  ·simp;omega
  ·simp
 refine QaD (α:={j:Nat // j≤T.length}) (fun j=>[(.s 5,.av (.val (vu (QaP (T.take j.1))))),(.s 6,.av (.val (vs T))),(.s 12,.av (.val (vi T.length))),(.s 13,.av (.val (vi j.1))),(.o (1000,0),.num 2),(.c (1000,0) 0,.av (.val (vs (Qct l e n)))),(.c (1000,0) 1,.av (.val (vi (QdY l e n))))]) (fun j=>T.length-j.1) ⟨0,Nat.zero_le _⟩ ?_ (fun j=>?_)
 ·exact ex0
 ·obtain ⟨j,hj⟩:=j
  dsimp only
  have hb:QaP (T.take j)<256 ^ (T.take j).length:=Qb9 _
  have hs:∀ h:j<T.length,T.take (j+1)=T.take j++[T[j]]:=fun h=>List.take_succ_eq_append_getElem h
  by_cases hlt:j<T.length
  ·have hb:QaP (T.take j)<16777216:=by
    have h2:(T.take j).length≤3:=by rw [List.length_take];omega
    have h3:256 ^ (T.take j).length≤256 ^ 3:=Nat.pow_le_pow_right (by decide) h2
    omega
   have hbt:=T[j].toNat_lt
   repeat first | refine sp_ ?_ | exact ex0
   refine Qau ⟨j+1,hlt⟩ ⟨?_,by dsimp only;omega⟩
   refine sx_ ?_
   rw [hs hlt,Qs2,show T.getD j 0=T[j] by simp [hlt],QjX _ _ hb hbt]
  ·repeat first | refine sp_ ?_ | exact ex0
   (refine Qap [] ?_;simp (decide:=true) (disch:=omega) only [go_sem,↓reduceIte,↓Qad])
   rw [List.take_of_length_le (by omega)]
theorem QiA (l:List UInt8) (k m:Nat) (h:256 ^ k=m):(QaP (QbB l k):Int)<m:=by
 have h1:=Qb9 (QbB l k)
 have h2:(QbB l k).length≤k:=by unfold QbB;split <;> simp <;> omega
 have h3:256 ^ (QbB l k).length≤256 ^ k:=Nat.pow_le_pow_right (by decide) h2
 omega
theorem Qp6 (l:List UInt8) (e:Int) (hl:l.length≤maxLen):Qan Tryz.prog 122 [.ptr 0 0] [inO l e] (.ca (.val (vi (QaP (QbB l 1))))) [inO (Qct l e 1) (QdY l e 1)]:=by
 have hlt:(QaP (QbB l 1):Int)<256:=QiA l 1 256 (by decide)
 refine Qaa Tryz.func122 rfl Tryz.ntmps122 Tryz.results122 ⟨by decide,by simp⟩ fun C hC=>?_
 repeat first | refine sp_ ?_ | exact ex0
 refine Qac Tryz.call173 (QfY l e 1 hl (by omega)) [(1000,0)] ?_
 repeat first | refine sp_ ?_ | exact ex0
 exact re0 []
theorem Qs5 (l:List UInt8) (e:Int) (hl:l.length≤maxLen):Qan Tryz.prog 123 [.ptr 0 0] [inO l e] (.ca (.val (vi (QaP (QbB l 2))))) [inO (Qct l e 2) (QdY l e 2)]:=by
 have hlt:(QaP (QbB l 2):Int)<65536:=QiA l 2 65536 (by decide)
 refine Qaa Tryz.func123 rfl Tryz.ntmps123 Tryz.results123 ⟨by decide,by simp⟩ fun C hC=>?_
 repeat first | refine sp_ ?_ | exact ex0
 refine Qac Tryz.call173 (QfY l e 2 hl (by omega)) [(1000,0)] ?_
 repeat first | refine sp_ ?_ | exact ex0
 exact re0 []
theorem QCp (l:List UInt8) (e:Int) (hl:l.length≤maxLen):Qan Tryz.prog 252 [.ptr 0 0] [inO l e] (.ca (.val (vi (QaP (QbB l 3))))) [inO (Qct l e 3) (QdY l e 3)]:=by
 have hlt:(QaP (QbB l 3):Int)<16777216:=QiA l 3 16777216 (by decide)
 refine Qaa Tryz.func252 rfl Tryz.ntmps252 Tryz.results252 ⟨by decide,by simp⟩ fun C hC=>?_
 repeat first | refine sp_ ?_ | exact ex0
 refine Qac Tryz.call173 (QfY l e 3 hl (by omega)) [(1000,0)] ?_
 repeat first | refine sp_ ?_ | exact ex0
 exact re0 []
theorem QCq (l:List UInt8) (e:Int) (hl:l.length≤maxLen):Qan Tryz.prog 124 [.ptr 0 0] [inO l e] (.ca (.val (vu (QaP (QbB l 4))))) [inO (Qct l e 4) (QdY l e 4)]:=by
 have hlt:(QaP (QbB l 4):Int)<4294967296:=QiA l 4 4294967296 (by decide)
 refine Qaa Tryz.func124 rfl Tryz.ntmps124 Tryz.results124 ⟨by decide,by simp⟩ fun C hC=>?_
 repeat first | refine sp_ ?_ | exact ex0
 refine Qac Tryz.call173 (QfY l e 4 hl (by omega)) [(1000,0)] ?_
 repeat first | refine sp_ ?_ | exact ex0
 exact re0 []
theorem QfZ (n:Int) (p:List UInt8) (a k:Nat) (h:p++QaK n (a+1)=QaK n k):(p++[UInt8.ofNat ((n / 256 ^ a) % 256).toNat])++QaK n a=QaK n k:=by
 rw [←h,List.append_assoc];rfl
theorem Qs6 (l:List UInt8) (n:Int) (k:Nat) (hl:l.length+4≤140737488355328) (hn:0≤n∧n<4294967296) (hk:k≤4):Qan Tryz.prog 109 [.ptr 0 0,.ca (.val (vu n)),.ca (.val (vi k))] [QeZ l] (.ca (.val (.tup []))) [QeZ (l++QaK n k)]:=by
 refine Qaa Tryz.func109 rfl Tryz.ntmps109 Tryz.results109 ⟨by decide,by simp⟩ fun C hC=>?_
 repeat first | refine sp_ ?_ | exact ex0
 refine QaD (α:={q:Nat × List UInt8 // q.1≤k∧q.2++QaK n q.1=QaK n k}) (fun q=>[(.s 0,.av (.ptr (1000,0) 0 0)),(.s 1,.av (.val (vu n))),(.s 6,.av (.val (vi ((q.1.1:Int)-1)))),(.o (1000,0),.num 1),(.c (1000,0) 0,.av (.own (1000,1) 0 5 1 ((l++q.1.2).map QaG))),(.k (1000,1),.row 5 1 ((l++q.1.2).map QaG).length)]) (fun q=>q.1.1) ⟨(k,[]),Nat.le_refl _,rfl⟩ ?_ (fun q=>?_)
 ·exact ex0
 ·obtain ⟨⟨a,p⟩,ha,hp⟩:=q
  dsimp only at ha hp ⊢
  have hpl:p.length+a=k:=by
   have:=congrArg List.length hp
   rw [List.length_append,Qaj,Qaj] at this
   exact this
  have h5:a=0∨a=1∨a=2∨a=3∨a=4:=by omega
  rcases h5 with rfl | rfl | rfl | rfl | rfl
  ·have e:p=QaK n k:=by simpa [QaK] using hp
   repeat first | refine sp_ ?_ | exact ex0
   (refine Qap [] ?_;simp (decide:=true) (disch:=omega) only [go_sem,↓reduceIte,↓Qad])
   rw [e]
  ·repeat first | refine sp_ ?_ | exact ex0
   refine Qau ⟨(0,p++[_]),by dsimp only;omega,QfZ n p 0 k hp⟩ ⟨?_,by dsimp only;omega⟩
   refine sx_ ?_
   rw [Qed]
   simp [Nat.add_assoc]
  ·repeat first | refine sp_ ?_ | exact ex0
   refine Qau ⟨(1,p++[_]),by dsimp only;omega,QfZ n p 1 k hp⟩ ⟨?_,by dsimp only;omega⟩
   refine sx_ ?_
   rw [Qed]
   simp [Nat.add_assoc]
  ·repeat first | refine sp_ ?_ | exact ex0
   refine Qau ⟨(2,p++[_]),by dsimp only;omega,QfZ n p 2 k hp⟩ ⟨?_,by dsimp only;omega⟩
   refine sx_ ?_
   rw [Qed]
   simp [Nat.add_assoc]
  ·repeat first | refine sp_ ?_ | exact ex0
   refine Qau ⟨(3,p++[_]),by dsimp only;omega,QfZ n p 3 k hp⟩ ⟨?_,by dsimp only;omega⟩
   refine sx_ ?_
   have e:=Qed (n / 16777216)
   rw [wrap_u8 (by omega) (by omega)] at e
   rw [e]
   simp [Nat.add_assoc]
def Qp7 (n:Int):List V:=[.sc (.int .i64 n)]
def QdJ (n:Int):List V:=[.sc (.int .u32 n)]
def Qah (k:Nat) (ns:List Int):List UInt8:=ns.flatMap (QaK · k)
attribute [go_sem] Qp7 QdJ
theorem Qs7 (n:Int) (k:Nat) (hk:k≤4):QaK (n % 4294967296) k=QaK n k:=Qox n k 4 hk
theorem Qai (k:Nat) (ns:List Int):(Qah k ns).length=k * ns.length:=by
 unfold Qah
 induction ns with
 | nil=>simp
 | cons n ns ih=>simp [Qaj,ih,Nat.mul_add];omega
theorem QgF (k:Nat) (ns:List Int) (n:Int):Qah k (ns++[n])=Qah k ns++QaK n k:=by simp [Qah]
theorem Qky (l:List UInt8) (k:Nat) (ns:List Int) (hl:l.length+4 * ns.length≤140737488355328) (hk:k≤4):Qan Tryz.prog 50 [.ptr 0 0,.ca (.val (vi k)),.ca (.val (.lst 1 (ns.map Qp7)))] [QeZ l] (.ptr 0 0) [QeZ (l++Qah k ns)]:=by
 refine Qaa Tryz.func50 rfl Tryz.ntmps50 Tryz.results50 ⟨by decide,by simp⟩ fun C hC=>?_
 repeat first | refine sp_ ?_ | exact ex0
 have hpl:=fun j=>Qai k (ns.take j)
 refine QaD (α:={j:Nat // j≤ns.length}) (fun j=>[(.s 0,.av (.ptr (1000,0) 0 0)),(.s 1,.av (.val (vi k))),(.s 9,.av (.val (.lst 1 (ns.map Qp7)))),(.s 10,.av (.val (vi ns.length))),(.s 11,.av (.val (vi j.1))),(.o (1000,0),.num 1),(.c (1000,0) 0,.av (.own (1000,1) 0 5 1 ((l++Qah k (ns.take j.1)).map QaG))),(.k (1000,1),.row 5 1 ((l++Qah k (ns.take j.1)).map QaG).length)]) (fun j=>ns.length-j.1) ⟨0,Nat.zero_le _⟩ ?_ (fun j=>?_)
 ·simp only [List.take_zero,Qah,List.flatMap_nil,List.append_nil]
  exact ex0
 ·obtain ⟨j,hj⟩:=j
  dsimp only at hj ⊢
  have hpj:=hpl j
  rw [List.length_take,Nat.min_eq_left hj] at hpj
  by_cases hlt:j<ns.length
  ·have hkj:k * j≤4 * j:=Nat.mul_le_mul_right _ hk
   have hs:ns.take (j+1)=ns.take j++[ns[j]]:=List.take_succ_eq_append_getElem hlt
   repeat first | refine sp_ ?_ | exact ex0
   refine Qac Tryz.call109 (Qs6 (l++Qah k (ns.take j)) (ns[j] % 4294967296) k (by rw [List.length_append];omega) (by omega) hk) [(1000,0)] ?_
   repeat first | refine sp_ ?_ | exact ex0
   refine ⟨IntKind.wrap_u32 _,?_⟩
   rw [Qs7 _ k hk]
   repeat first | refine sp_ ?_ | exact ex0
   refine Qau ⟨j+1,hlt⟩ ⟨?_,by dsimp only;omega⟩
   rw [hs,QgF]
   refine sx_ ?_
   simp [Nat.add_assoc]
  ·repeat first | refine sp_ ?_ | exact ex0
   (refine Qap [] ?_;simp (decide:=true) (disch:=omega) only [go_sem,↓reduceIte,↓Qad])
   rw [List.take_of_length_le (by omega)]
theorem Qca (l:List UInt8) (ns:List Int) (hl:l.length+4 * ns.length≤140737488355328) (hn:∀ n∈ns,0≤n∧n<4294967296):Qan Tryz.prog 59 [.ptr 0 0,.ca (.val (.lst 1 (ns.map QdJ)))] [QeZ l] (.ptr 0 0) [QeZ (l++Qah 4 ns)]:=by
 refine Qaa Tryz.func59 rfl Tryz.ntmps59 Tryz.results59 ⟨by decide,by simp⟩ fun C hC=>?_
 repeat first | refine sp_ ?_ | exact ex0
 have hpl:=fun j=>Qai 4 (ns.take j)
 refine QaD (α:={j:Nat // j≤ns.length}) (fun j=>[(.s 0,.av (.ptr (1000,0) 0 0)),(.s 7,.av (.val (.lst 1 (ns.map QdJ)))),(.s 8,.av (.val (vi ns.length))),(.s 9,.av (.val (vi j.1))),(.o (1000,0),.num 1),(.c (1000,0) 0,.av (.own (1000,1) 0 5 1 ((l++Qah 4 (ns.take j.1)).map QaG))),(.k (1000,1),.row 5 1 ((l++Qah 4 (ns.take j.1)).map QaG).length)]) (fun j=>ns.length-j.1) ⟨0,Nat.zero_le _⟩ ?_ (fun j=>?_)
 ·simp only [List.take_zero,Qah,List.flatMap_nil,List.append_nil]
  exact ex0
 ·obtain ⟨j,hj⟩:=j
  dsimp only at hj ⊢
  have hpj:=hpl j
  rw [List.length_take,Nat.min_eq_left hj] at hpj
  by_cases hlt:j<ns.length
  ·have hs:ns.take (j+1)=ns.take j++[ns[j]]:=List.take_succ_eq_append_getElem hlt
   repeat first | refine sp_ ?_ | exact ex0
   refine Qac Tryz.call109 (Qs6 (l++Qah 4 (ns.take j)) ns[j] 4 (by rw [List.length_append];omega) (hn _ (List.getElem_mem hlt)) (by decide)) [(1000,0)] ?_
   repeat first | refine sp_ ?_ | exact ex0
   refine Qau ⟨j+1,hlt⟩ ⟨?_,by dsimp only;omega⟩
   rw [hs,QgF]
   refine sx_ ?_
   simp [Nat.add_assoc]
  ·repeat first | refine sp_ ?_ | exact ex0
   (refine Qap [] ?_;simp (decide:=true) (disch:=omega) only [go_sem,↓reduceIte,↓Qad])
   rw [List.take_of_length_le (by omega)]
def Qp8 (s:List UInt8):List V:=[.sc (str s)]
attribute [go_sem] Qp8
theorem Qs8 (ss:List (List UInt8)) (j:Nat):(ss.take j).flatten.length≤ss.flatten.length:=by
 have h:=congrArg (fun l:List (List UInt8)=>l.flatten.length) (List.take_append_drop j ss)
 simp only [List.flatten_append,List.length_append] at h
 omega
theorem Qei (l:List UInt8) (ss:List (List UInt8)) (hl:l.length+ss.flatten.length≤140737488355328) (hn:ss.length≤140737488355328):Qan Tryz.prog 60 [.ptr 0 0,.ca (.val (.lst 1 (ss.map Qp8)))] [QeZ l] (.ptr 0 0) [QeZ (l++ss.flatten)]:=by
 refine Qaa Tryz.func60 rfl Tryz.ntmps60 Tryz.results60 ⟨by decide,by simp⟩ fun C hC=>?_
 repeat first | refine sp_ ?_ | exact ex0
 refine QaD (α:={j:Nat // j≤ss.length}) (fun j=>[(.s 0,.av (.ptr (1000,0) 0 0)),(.s 7,.av (.val (.lst 1 (ss.map Qp8)))),(.s 8,.av (.val (vi ss.length))),(.s 9,.av (.val (vi j.1))),(.o (1000,0),.num 1),(.c (1000,0) 0,.av (.own (1000,1) 0 5 1 ((l++(ss.take j.1).flatten).map QaG))),(.k (1000,1),.row 5 1 ((l++(ss.take j.1).flatten).map QaG).length)]) (fun j=>ss.length-j.1) ⟨0,Nat.zero_le _⟩ ?_ (fun j=>?_)
 ·simp only [List.take_zero,List.flatten_nil,List.append_nil]
  exact ex0
 ·obtain ⟨j,hj⟩:=j
  dsimp only at hj ⊢
  by_cases hlt:j<ss.length
  ·have hs:ss.take (j+1)=ss.take j++[ss[j]]:=List.take_succ_eq_append_getElem hlt
   have hf:=Qs8 ss (j+1)
   rw [hs,List.flatten_append,List.length_append,List.flatten_singleton] at hf
   repeat first | refine sp_ ?_ | exact ex0
   refine Qau ⟨j+1,hlt⟩ ⟨?_,by dsimp only;omega⟩
   rw [hs,List.flatten_append,List.flatten_singleton]
   refine sx_ ?_
   simp [Nat.add_assoc]
  ·repeat first | refine sp_ ?_ | exact ex0
   (refine Qap [] ?_;simp (decide:=true) (disch:=omega) only [go_sem,↓reduceIte,↓Qad])
   rw [List.take_of_length_le (by omega)]
theorem Qa3 (l:List UInt8) (hl:l.length≤140737488355328):Qan Tryz.prog 22 [.ptr 0 0] [QeZ l] (.ca (.val (vs l))) [QeZ l]:=by
 refine Qaa Tryz.func22 rfl Tryz.ntmps22 Tryz.results22 ⟨by decide,by simp⟩ fun C hC=>?_
 repeat first | refine sp_ ?_ | exact ex0
 refine Qkl l ex0 ex0 ex0 ?_
 repeat first | refine sp_ ?_ | exact ex0
 exact re0 []
theorem QdS (l:List UInt8) (ns:List Int) (hl:l.length+4 * ns.length≤140737488355328):Qan Tryz.prog 18 [.ptr 0 0,.ca (.val (.lst 1 (ns.map Qp7)))] [QeZ l] (.ptr 0 0) [QeZ (l++Qah 1 ns)]:=by
 refine Qaa Tryz.func18 rfl Tryz.ntmps18 Tryz.results18 ⟨by decide,by simp⟩ fun C hC=>?_
 repeat first | refine sp_ ?_ | exact ex0
 refine Qac Tryz.call50 (Qky l 1 ns hl (by decide)) [(1000,0)] ?_
 repeat first | refine sp_ ?_ | exact ex0
 exact re0 []
theorem Qfi (l:List UInt8) (ns:List Int) (hl:l.length+4 * ns.length≤140737488355328):Qan Tryz.prog 19 [.ptr 0 0,.ca (.val (.lst 1 (ns.map Qp7)))] [QeZ l] (.ptr 0 0) [QeZ (l++Qah 2 ns)]:=by
 refine Qaa Tryz.func19 rfl Tryz.ntmps19 Tryz.results19 ⟨by decide,by simp⟩ fun C hC=>?_
 repeat first | refine sp_ ?_ | exact ex0
 refine Qac Tryz.call50 (Qky l 2 ns hl (by decide)) [(1000,0)] ?_
 repeat first | refine sp_ ?_ | exact ex0
 exact re0 []
theorem Qs9 (l:List UInt8) (ns:List Int) (hl:l.length+4 * ns.length≤140737488355328):Qan Tryz.prog 148 [.ptr 0 0,.ca (.val (.lst 1 (ns.map Qp7)))] [QeZ l] (.ptr 0 0) [QeZ (l++Qah 3 ns)]:=by
 refine Qaa Tryz.func148 rfl Tryz.ntmps148 Tryz.results148 ⟨by decide,by simp⟩ fun C hC=>?_
 repeat first | refine sp_ ?_ | exact ex0
 refine Qac Tryz.call50 (Qky l 3 ns hl (by decide)) [(1000,0)] ?_
 repeat first | refine sp_ ?_ | exact ex0
 exact re0 []
end Go.Proofs.YthfocmakkeonoaaGreatDoor
namespace Go.Proofs.YthfocmakkeonoaaGreatDoor
open Go.RowKit
def nx (k:Nat) (x:List UInt8 × Int):List UInt8 × Int:=(Qct x.1 x.2 k,QdY x.1 x.2 k)
def vl (k:Nat) (x:List UInt8 × Int):Int:=QaP (QbB x.1 k)
theorem QaM (k:Nat) (x:List UInt8 × Int):(nx k x).1.length≤x.1.length:=by
 unfold nx Qct Qhk
 dsimp only
 split
 ·simp
 ·split <;> simp
theorem Qhl (k m:Nat) (x:List UInt8 × Int) (h:256 ^ k=m):0≤vl k x∧vl k x<m:=⟨by unfold vl;omega,QiA x.1 k m h⟩
theorem rd8 (x:List UInt8 × Int) (h:x.1.length≤maxLen):Qan Tryz.prog 122 [.ptr 0 0] [inO x.1 x.2] (.ca (.val (vi (vl 1 x)))) [inO (nx 1 x).1 (nx 1 x).2]:=Qp6 x.1 x.2 h
theorem QFu (x:List UInt8 × Int) (h:x.1.length≤maxLen):Qan Tryz.prog 252 [.ptr 0 0] [inO x.1 x.2] (.ca (.val (vi (vl 3 x)))) [inO (nx 3 x).1 (nx 3 x).2]:=QCp x.1 x.2 h
theorem Qmy (x:List UInt8 × Int) (h:x.1.length≤maxLen):Qan Tryz.prog 124 [.ptr 0 0] [inO x.1 x.2] (.ca (.val (vu (vl 4 x)))) [inO (nx 4 x).1 (nx 4 x).2]:=QCq x.1 x.2 h
def goX (T:Nat) (l:List UInt8):List UInt8 × Int:=if T≤l.length then (l.drop T,0) else ([],2)
theorem QeF (l:List UInt8):(l,(0:Int))=goX 0 l:=by simp [goX]
theorem QiB (k T:Nat) (l:List UInt8) (hk:0<k):nx k (goX T l)=goX (T+k) l:=by
 unfold goX nx Qct QdY Qhk Qkx
 by_cases h:T≤l.length
 ·rw [if_pos h]
  by_cases h2:T+k≤l.length
  ·have hh:(k:Int)≤((l.drop T).length:Int):=by rw [List.length_drop];omega
   dsimp only
   rw [if_pos hh,if_pos hh,if_pos h2]
   simp [List.drop_drop]
  ·have hh:¬(k:Int)≤((l.drop T).length:Int):=by rw [List.length_drop];omega
   dsimp only
   rw [if_neg hh,if_neg hh,if_neg h2]
   rfl
 ·have hh:¬(k:Int)≤(([]:List UInt8).length:Int):=by simp only [List.length_nil];omega
  rw [if_neg h,if_neg (show ¬T+k≤l.length by omega)]
  dsimp only
  rw [if_neg hh,if_neg hh]
  rfl
theorem Qdr (k T:Nat) (l:List UInt8) (h:T+k≤l.length):vl k (goX T l)=QaP ((l.drop T).take k):=by
 have hh:(k:Int)≤((l.drop T).length:Int):=by rw [List.length_drop];omega
 unfold goX vl QbB
 rw [if_pos (show T≤l.length by omega)]
 dsimp only
 rw [if_pos hh]
 rfl
theorem Qds (s:List UInt8) (a k:Nat) (h:a+k≤s.length):QaK (QaP ((s.drop a).take k):Int) k=(s.drop a).take k:=by
 have hl:((s.drop a).take k).length=k:=by rw [List.length_take,List.length_drop];omega
 have:=Qs3 ((s.drop a).take k)
 rwa [hl] at this
theorem Qha (s:List UInt8) (a k:Nat) (m:Nat) (h:a+k=m):(s.drop a).take k++s.drop m=s.drop a:=by
 subst h
 rw [←List.drop_drop,List.take_append_drop]
theorem QzD (k:Nat) (n:Int):Qah k [n]=QaK n k:=by simp [Qah]
end Go.Proofs.YthfocmakkeonoaaGreatDoor
