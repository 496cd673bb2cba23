/- The statement ReceiverTwice, plain law: what comes twice changes counts alone. -/
import Derived.Test.YthfocmakkeonoaaGreatDoorSl0z
import Derived.Test.YthfocmakkeonoaaGreatDoorGapOz
import Derived.Test.YthfocmakkeonoaaGreatDoorRtp4z
import Derived.Test.YthfocmakkeonoaaGreatDoorRcv4z
import Derived.Test.YthfocmakkeonoaaGreatDoorQInz
import Derived.Test.YthfocmakkeonoaaGreatDoorRPz
set_option linter.unusedVariables false
set_option linter.unusedSimpArgs false
set_option maxRecDepth 100000
set_option maxHeartbeats 16000000
namespace Go.Proofs.YthfocmakkeonoaaGreatDoor
open Go.RowKit
theorem QoZ (a q:Int) (h:(q-a) % 65536=0):d16 a q=0:=by unfold d16;omega
theorem Quo (L q:Int):(QdI L q-q) % 65536=0:=by
 unfold QdI d16
 split <;> omega
theorem Qnv {L q:Int} (h1:-4611686018427387904≤QdI L q) (h2:QdI L q≤4611686018427387904):QdI (QdI L q) q=QdI L q:=by
 have h:=Quo L q
 generalize QdI L q=n at *
 unfold QdI
 have e:max (-4611686018427387904) (min n 4611686018427387904)=n:=by omega
 rw [e,QoZ _ _ (by omega)]
 omega
theorem QjS (L q:Int) (h:-4611686018427387904≤L∧L≤4611686018427387904):L-32768≤QdI L q∧QdI L q≤L+32767:=by
 unfold QdI
 have e:max (-4611686018427387904) (min L 4611686018427387904)=L:=by omega
 rw [e]
 have:=Qok (L % 65536) q
 omega
theorem Qup (x y:Rx) (q:Int) (hq:0≤q∧q≤65535) (hg:-4000000000000≤x.gr∧x.gr≤4000000000000) (h1:y.any=true) (h2:y.gr=grR x q):Qhn y q=Qhn x q∧grR y q=grR x q∧(∀ n,Qhn x q=n→n≤grR x q):=by
 have hn:Qhn y q=Qhn x q:=by
  unfold Qhn
  rw [if_pos h1,h2]
  unfold grR
  by_cases ha:x.any=true
  ·have e:Qhn x q=QdI x.gr q:=by unfold Qhn;rw [if_pos ha]
   have hb:=QjS x.gr q (by omega)
   rw [if_pos ha,e]
   by_cases hl:x.gr<QdI x.gr q
   ·rw [if_pos (.inr hl)]
    exact Qnv (by omega) (by omega)
   ·rw [if_neg (fun h=>h.elim (fun h=>by rw [ha] at h;cases h) hl)]
  ·have e:Qhn x q=q:=by unfold Qhn;rw [if_neg ha]
   rw [if_pos (.inl (by simpa using ha)),if_neg ha,e]
   unfold QdI
   have e:max (-4611686018427387904) (min q 4611686018427387904)=q:=by omega
   rw [e,QoZ _ _ (by omega)]
   omega
 refine ⟨hn,?_,?_⟩
 ·unfold grR
  rw [hn,h2]
  unfold grR
  by_cases h:x.any=false∨x.gr<Qhn x q
  ·rw [if_pos h,if_neg (fun h=>h.elim (fun h=>by rw [h1] at h;cases h) (fun h=>by omega))]
  ·rw [if_neg h,if_neg (fun h'=>h'.elim (fun h=>by rw [h1] at h;cases h) (fun h'=>h (.inr h')))]
 ·intro n e
  unfold grR
  rw [e]
  split <;> rename_i h
  ·exact Int.le_refl _
  ·have:¬x.gr<n:=fun q=>h (.inr q)
   omega
theorem Quq {l:List Wt} {n:Int} (h:∀ w∈l,w.n≠n):QsQ l n=false:=by
 cases hh:QsQ l n with
 | false=>rfl
 | true=>
  obtain ⟨hi,e⟩:=QiK hh
  exact absurd e (h _ (List.getElem_mem hi))
theorem QqD {g:Gp} {K:Int} (h:g.Ok K) (n0 now0:Int):(QeO (QeO g n0 now0).1 n0 now0).1=(QeO g n0 now0).1:=by
 have key:∀ g':Gp,g'.any=true→Qiw n0≤g'.gr→(∀ w∈g'.l,w.n≠Qiw n0)→(QeO g' n0 now0).1=g':=fun g' h1 h2 h3=>by
  unfold QeO
  dsimp only
  rw [if_neg (by rw [h1];decide),if_pos h2,Quq h3]
  dsimp only
  rw [if_neg (by decide)]
 refine key _ ?_ ?_ ?_
 ·unfold QeO
  dsimp only
  split
  ·rfl
  ·rename_i ha
   split <;> simpa using ha
 ·unfold QeO
  dsimp only
  split
  ·exact Int.le_refl _
  ·split
   ·assumption
   ·exact Int.le_refl _
 ·unfold QeO
  dsimp only
  have hn:=QkG n0
  generalize Qiw n0=n at *
  generalize QcD now0=now at *
  split
  ·rename_i ha
   intro w hw
   dsimp only at hw
   rw [h.an ha] at hw
   cases hw
  ·split
   ·intro w hw
    dsimp only at hw
    split at hw
    ·rename_i hi
     obtain ⟨hk,e⟩:=QiK hi
     have hs:=List.pairwise_iff_getElem.1 h.so
     rcases List.mem_append.1 hw with hw | hw
     ·obtain ⟨j,hj,rfl⟩:=List.getElem_of_mem hw
      rw [List.length_take] at hj
      rw [List.getElem_take]
      have:=hs j (atW g.l n) (by omega) hk (by omega)
      omega
     ·obtain ⟨j,hj,rfl⟩:=List.getElem_of_mem hw
      rw [List.length_drop] at hj
      rw [List.getElem_drop]
      have:=hs (atW g.l n) (atW g.l n+1+j) hk (by omega) (by omega)
      omega
    ·rename_i hi
     intro e
     have hle:=QtJ g.l n
     obtain ⟨j,hj,rfl⟩:=List.getElem_of_mem hw
     have h1:¬j<atW g.l n:=fun q=>by have:=Qx7 j hj q;omega
     have h2:n≤(g.l[atW g.l n]'(by omega)).n:=Qx8 h.so _ (by omega) (Nat.le_refl _)
     have h3:atW g.l n=j:=by
      rcases Nat.lt_or_ge (atW g.l n) j with q | q
      ·have:=List.pairwise_iff_getElem.1 h.so (atW g.l n) j (by omega) hj q
       omega
      ·omega
     apply hi
     unfold QsQ
     rw [List.getElem?_eq_getElem (by omega)]
     dsimp only
     simp only [h3]
     exact decide_eq_true e
   ·rename_i hle
    intro w hw
    dsimp only at hw
    have hsk:QlM g n=max 0 (Qjg g n-g.l.length):=rfl
    rcases List.mem_append.1 (List.mem_of_mem_drop hw) with hw | hw
    ·have:=(h.nn w hw).2;omega
    ·have:=QeH hw;omega
structure Roomy (b:Bu) (i:Nat):Prop where
 hz:b.hz=-1
 cf:b.cf=1000
 cp:b.cp=60000
 cb:b.cb=33554432
 n:b.l.length≤i
 p:Qb1 b.l≤i
 s:bts b.l≤1500 * i
theorem QqE (f:Fr) (i c:Int) (s:List UInt8):(QbU (QbU f i c s).1 i c s).1=(QbU f i c s).1∧((QbU (QbU f i c s).1 i c s).2=3∨(QbU (QbU f i c s).1 i c s).2=4):=by
 unfold QbU
 by_cases h1:c≠f.n∨i<0∨(f.n:Int)≤i
 ·rw [if_pos h1]
  dsimp only
  rw [if_pos h1]
  exact ⟨rfl,.inr rfl⟩
 ·rw [if_neg h1]
  by_cases h2:(QbP f.ps i.toNat).isSome=true
  ·rw [if_pos h2]
   dsimp only
   rw [if_neg h1,if_pos h2]
   exact ⟨rfl,.inl rfl⟩
  ·rw [if_neg h2]
   dsimp only
   rw [if_neg h1]
   have h3:(QbP (f.ps++[(i.toNat,s)]) i.toNat).isSome=true:=by
    rw [Qhv]
    have:QbP [(i.toNat,s)] i.toNat=some s:=by simp [QbP]
    rw [this]
    cases QbP f.ps i.toNat <;> rfl
   rw [if_pos h3]
   exact ⟨rfl,.inl rfl⟩
theorem QC9 {l:List Fr} {t j:Nat} {f:Fr} (hs:l.Pairwise fun f g=>f.tm<g.tm) (h:l[j]? = some f) (ht:f.tm=t):atF l t=j∧isF l t=true:=by
 obtain ⟨hj,he⟩:=List.getElem?_eq_some_iff.1 h
 subst he
 have e:atF l t=j:=by
  rcases Nat.lt_or_ge j (atF l t) with q | q
  ·have:=Qos j hj q;omega
  ·rcases Nat.lt_or_ge (atF l t) j with q2 | q2
   ·have h1:=Qot hs (atF l t) (by omega) (Nat.le_refl _)
    have h2:=List.pairwise_iff_getElem.1 hs (atF l t) j (by omega) hj q2
    omega
   ·omega
 refine ⟨e,?_⟩
 unfold isF
 rw [e,h]
 exact decide_eq_true ht
theorem Qnw (b:Bu) (t:Nat) (c now:Int):Qb1 (QaE b t c now).l=Qb1 b.l∧bts (QaE b t c now).l=bts b.l∧(QaE b t c now).hz=b.hz∧(QaE b t c now).cf=b.cf∧(QaE b t c now).cp=b.cp∧(QaE b t c now).cb=b.cb:=by
 unfold QaE
 split
 ·exact ⟨rfl,rfl,rfl,rfl,rfl,rfl⟩
 ·refine ⟨?_,?_,rfl,rfl,rfl,rfl⟩
  ·dsimp only
   rw [QoN];rfl
  ·dsimp only
   rw [QtY];rfl
theorem Qur (f:Fr) (i c:Int) (s:List UInt8):(QbU f i c s).1.ps.length≤f.ps.length+1∧Qbo (QbU f i c s).1.ps≤Qbo f.ps+s.length∧1≤(QbU f i c s).2∧(QbU f i c s).2≤4:=by
 unfold QbU
 split
 ·exact ⟨by dsimp only;omega,by dsimp only;omega,by dsimp only;omega,by dsimp only;omega⟩
 ·split
  ·exact ⟨by dsimp only;omega,by dsimp only;omega,by dsimp only;omega,by dsimp only;omega⟩
  ·refine ⟨by dsimp only;simp,by dsimp only;rw [QlP];simp [Qbo],?_,?_⟩ <;> dsimp only <;> split <;> omega
theorem Qmf {b:Bu} {K:Int} (h:b.Ok K) {n:Nat} (hr:Roomy b n) (hn:n<900) {t:Nat} {i c now:Int} {s:List UInt8} (ht:t<4294967296) (hs:s.length≤1500) (h2:-1099511627776≤now) (h3:now≤1099511627776) :
  Roomy (Qhj b t i c s now).1 (n+1)∧(Qhj b t i c s now).2.1≤4∧∃ k:Int,(k=3∨k=4)∧∀ now',Qhj (Qhj b t i c s now).1 t i c s now'=((Qhj b t i c s now).1,k,[]):=by
 obtain ⟨r1,r2,r3,r4,r5,r6,r7⟩:=hr
 unfold Qhj
 rw [if_neg (by omega)]
 by_cases hb:QA5 i c=true
 ·rw [if_pos hb]
  refine ⟨⟨r1,r2,r3,r4,by (try dsimp only);omega,by (try dsimp only);omega,by (try dsimp only);omega⟩,by dsimp only;omega,4,.inr rfl,fun now'=>?_⟩
  dsimp only
  rw [if_neg (by omega),if_pos hb]
 rw [if_neg hb]
 obtain ⟨f,f1,f2,f3,f4,f5,f6,f7⟩:=Qeh (c:=c) h.fr h.so ht h2 h3
 obtain ⟨q1,q2,q3,q4,q5,q6⟩:=Qnw b t c now
 have hp:Qdh (QaE b t c now) (atF b.l t) i c s=({ QaE b t c now with l:=(QaE b t c now).l.set (atF b.l t) (QbU f i c s).1 },(QbU f i c s).2):=by
  unfold Qdh;rw [f1]
 dsimp only
 rw [hp]
 dsimp only
 obtain ⟨p1,p2,p3,p4⟩:=Qur f i c s
 obtain ⟨a1,a2⟩:=QqE f i c s
 have s1:=Qkv (g:=(QbU f i c s).1) f1
 have s2:=Qna (g:=(QbU f i c s).1) f1
 have s3:=QxZ (g:=(QbU f i c s).1) f5 f1 (Qkw f i c s)
 generalize hb1:QaE b t c now=b1 at *
 generalize hj:atF b.l t=j at *
 generalize hfe:(QbU f i c s).1=f' at *
 have hft:f'.tm=t:=by rw [←hfe,Qkw];exact f2
 have hlt:=(List.getElem?_eq_some_iff.1 f1).1
 have hset:(b1.l.set j f')[j]? = some f':=by simp [hlt]
 obtain ⟨e1,e2⟩:=QC9 s3 hset hft
 have hov:QdV { b1 with l:=b1.l.set j f' } = false:=decide_eq_false (by
  dsimp only
  rw [List.length_set]
  omega)
 rw [QgO hov]
 dsimp only
 refine ⟨⟨by rw [q3];exact r1,by rw [q4];exact r2,by rw [q5];exact r3,by rw [q6];exact r4,by dsimp only;rw [List.length_set];omega,by dsimp only;omega,by dsimp only;omega⟩,p4,(QbU f' i c s).2,a2,fun now'=>?_⟩
 rw [if_neg (by omega)]
 have hfr:QaE { b1 with l:=b1.l.set j f' } t c now' = { b1 with l:=b1.l.set j f' }:=by
  unfold QaE
  dsimp only
  rw [if_pos e2]
 rw [hfr]
 (try dsimp only)
 rw [e1]
 have hp2:Qdh { b1 with l:=b1.l.set j f' } j i c s=({ b1 with l:=b1.l.set j f' },(QbU f' i c s).2):=by
  unfold Qdh
  dsimp only
  rw [hset]
  dsimp only
  rw [a1,List.set_set]
 rw [hp2]
 (try dsimp only)
 rw [QgO hov,if_neg hb]
theorem Qw8 (l:List Fl) (id:Int):Qu4 l id=true↔id∈l.map (·.id):=by
 unfold Qu4 atR
 rw [decide_eq_true_eq,List.findIdx_lt_length]
 simp only [List.mem_map,decide_eq_true_eq]
theorem QkK (l:List Fl) (id n b:Int):(QtD l id n b).map (·.id)=(Qdi l id n).map (·.id):=by
 have:=congrArg (List.map Prod.fst) (Qhz l id n b)
 rw [List.map_map,List.map_map] at this
 exact this
theorem QAr (l:List Fl) (k:Nat) (a b:Int):(QoH l k a b).map (·.id)=l.map (·.id):=by
 unfold QoH
 induction l generalizing k with
 | nil=>simp
 | cons f l ih=>
  cases k with
  | zero=>rfl
  | succ k=>simp only [List.modify_succ_cons,List.map_cons];rw [ih k]
theorem QhD (x:Rx) (m:M6) (now len:Int):((QbH x m now len).any=true∧(QbH x m now len).gr=grR x m.seq∧(QbH x m now len).gp=(QeO x.gp (Qhn x m.seq) now).1∧(QbH x m now len).fr=(Qhj x.fr m.time.toNat m.idx m.cnt m.data now).1) ∧
  ((QbH x m now len).c=x.c∧(QbH x m now len).tb=x.tb∧(QbH x m now len).due=x.due∧(QbH x m now len).gone=x.gone∧(QbH x m now len).kp=x.kp)∧(QbH x m now len).fl.map (·.id)=(Qdi x.fl m.path m.pseq).map (·.id):=by
 unfold QbH
 dsimp only
 generalize Qhj x.fr m.time.toNat m.idx m.cnt m.data now=r
 split
 ·exact ⟨⟨rfl,rfl,rfl,rfl⟩,⟨rfl,rfl,rfl,rfl,rfl⟩,by dsimp only;rw [QAr,QkK]⟩
 ·split
  ·exact ⟨⟨rfl,rfl,rfl,rfl⟩,⟨rfl,rfl,rfl,rfl,rfl⟩,QkK _ _ _ _⟩
  ·split
   ·exact ⟨⟨rfl,rfl,rfl,rfl⟩,⟨rfl,rfl,rfl,rfl,rfl⟩,QkK _ _ _ _⟩
   ·exact ⟨⟨rfl,rfl,rfl,rfl⟩,⟨rfl,rfl,rfl,rfl,rfl⟩,QkK _ _ _ _⟩
theorem Qnx {x:Rx} {K K2:Int} (hg:x.gp.Ok K) (hb:x.fr.Ok K2) {i:Nat} (hr:Roomy x.fr i) (hi:i<900) (hgr:-4000000000000≤x.gr∧x.gr≤4000000000000) {m:M6} (hm:m.Ok) (hd:m.data.length≤1500) {now:Int} (hn:0≤now∧now≤1099511627776) (len len2:Int) :
  SimR (QbH x m now len) (QbH (QbH x m now len) m now len2):=by
 obtain ⟨⟨a1,a2,a3,a4⟩,⟨a5,a6,a7,a8,a9⟩,a10⟩:=QhD x m now len
 have ht:=hm.time
 obtain ⟨_,_,k,hk,hp⟩:=Qmf hb hr hi (t:=m.time.toNat) (i:=m.idx) (c:=m.cnt) (now:=now) (s:=m.data) (by omega) hd (by omega) (by omega)
 have hp:=hp now
 obtain ⟨n1,n2,_⟩:=Qup x (QbH x m now len) m.seq (by have:=hm.seq;omega) hgr a1 a2
 have hca:=QqD hg (Qhn x m.seq) now
 have hh:Qu4 (QbH x m now len).fl m.path=true:=by
  rw [Qw8,a10]
  obtain ⟨f,h1,h2⟩:=Qhy x.fl m.path m.pseq
  exact List.mem_map.2 ⟨f,List.mem_of_getElem? h1,h2⟩
 rw [←a4] at hp
 rw [←a3] at hca
 have hfl:(QtD (QbH x m now len).fl m.path m.pseq len2).map (fun f=>(f.id,f.j))=(QbH x m now len).fl.map (fun f=>(f.id,f.j)):=by
  rw [Qhz]
  unfold Qdi
  rw [if_pos hh]
 generalize hy:QbH x m now len=y at *
 unfold QbH
 dsimp only
 rw [hp,n1,n2,hca]
 dsimp only
 rw [if_neg (by omega),if_neg (by omega),←a2]
 split
 ·exact ⟨rfl,rfl,by dsimp only;rw [a1],rfl,rfl,rfl,rfl,rfl,hfl⟩
 ·exact ⟨rfl,rfl,by dsimp only;rw [a1],rfl,rfl,rfl,rfl,rfl,hfl⟩
theorem SimR.refl (x:Rx):SimR x x:=⟨rfl,rfl,rfl,rfl,rfl,rfl,rfl,rfl,rfl⟩
theorem SimR.trans {x y z:Rx} (h:SimR x y) (k:SimR y z):SimR x z:=
 ⟨k.c.trans h.c,k.tb.trans h.tb,k.any.trans h.any,k.gr.trans h.gr,k.gp.trans h.gp,k.fr.trans h.fr,k.dl.trans h.dl,k.due.trans h.due,k.fl.trans h.fl⟩
theorem Qmg {x:Rx} {K K2:Int} (hg:x.gp.Ok K) (hb:x.fr.Ok K2) {i:Nat} (hr:Roomy x.fr i) (hi:i<900) (hgr:-4000000000000≤x.gr∧x.gr≤4000000000000) {s:List UInt8} (hm:(Qa4 s).2=0→(Qa4 s).1.Ok∧(Qa4 s).1.data.length≤1500) (path:Int) {now:Int} (hn:0≤now∧now≤1099511627776) :
  SimR (QaY x path now s).1 (QaY (QaY x path now s).1 path now s).1:=by
 unfold QaY
 dsimp only
 generalize hp:Qa4 s=r at *
 by_cases h1:r.2=0
 ·have n1:¬r.2≠0:=fun q=>q h1
  obtain ⟨m1,m2⟩:=hm h1
  by_cases h2:r.1.src=x.c.ab
  ·have n2:¬r.1.src≠x.c.ab:=fun q=>q h2
   by_cases h3:r.1.path=path
   ·have n3:¬r.1.path≠path:=fun q=>q h3
    obtain ⟨_,⟨a5,_⟩,_⟩:=QhD x r.1 now s.length
    simp only [if_neg n1,if_neg n2,if_neg n3,a5]
    exact Qnx hg hb hr hi hgr m1 m2 hn _ _
   ·simp only [if_neg n1,if_neg n2,if_pos h3]
    exact ⟨rfl,rfl,rfl,rfl,rfl,rfl,rfl,rfl,rfl⟩
  ·simp only [if_neg n1,if_pos h2]
   exact ⟨rfl,rfl,rfl,rfl,rfl,rfl,rfl,rfl,rfl⟩
 ·simp only [if_pos h1]
  exact ⟨rfl,rfl,rfl,rfl,rfl,rfl,rfl,rfl,rfl⟩
def QcW (x:Rx) (now:Int):Rx × List (Nat × List UInt8):=
 let r:=Qfh x.fr now x.dl.now (Qb3 ⟨x.c.lo,x.c.hi,x.c.lo⟩).hi
 ({ x with fr:=r.1,gp:=(Qwn x.gp now).1 },r.2.1)
theorem Qmh {x y:Rx} (h:SimR x y) (now:Int):SimR (QcW x now).1 (QcW y now).1∧(QcW y now).2=(QcW x now).2:=by
 obtain ⟨h1,ht,h2,h3,h4,h5,h6,h7,h8⟩:=h
 unfold QcW
 rw [h1,h4,h5,h6]
 exact ⟨⟨rfl,ht,h2,h3,rfl,rfl,rfl,h7,h8⟩,rfl⟩
end Go.Proofs.YthfocmakkeonoaaGreatDoor
namespace Go.Proofs.YthfocmakkeonoaaGreatDoor
open Go.RowKit
theorem Sr.Ok.mono {s:Sr} {K K':Int} (h:s.Ok K) (hk:K≤K'):s.Ok K':=by
 obtain ⟨a1,a2,a3,a4,a5,a6,a7,a8,a9,a10,a11,a12⟩:=h
 exact ⟨a1,a2,a3,by omega,a5,a6,by omega,a8,a9,by omega,a11,a12⟩
theorem Fl.Ok.mono {f:Fl} {K K':Int} (h:f.Ok K) (hk:K≤K'):f.Ok K':=by
 obtain ⟨a1,a2,a3⟩:=h
 exact ⟨a1.mono hk,a2,by omega⟩
theorem Gp.Ok.mono {g:Gp} {K K':Int} (h:g.Ok K) (hk:K≤K'):g.Ok K':=by
 obtain ⟨a1,a2,a3,a4,a5,a6,a7,a8,a9,a10,a17,a11,a12,a13,a14,a15,a16⟩:=h
 exact ⟨a1,a2,a3,a4,a5,a6,a7,a8,a9,a10,a17,a11,a12,a13,a14,a15,by omega⟩
theorem Bu.Ok.mono' {b:Bu} {K K':Int} (h:b.Ok K) (hk:K≤K'):b.Ok K':=
 ⟨h.toCfg,h.fr,h.so,h.hl,h.h0,h.h1,h.c0,by have:=h.c1;omega,h.d0,by have:=h.d1;omega,h.e0,by have:=h.e1;omega,h.no⟩
theorem QDa {f:Fl} {K n b:Int} (h:f.Ok K) (hK:0≤K) (h0:0≤n) (h1:n≤65535) (b0:0≤b) (b1:b≤1099511627776):(flR f n b).Ok (K+1):=by
 obtain ⟨a1,a2,a3⟩:=h
 exact ⟨Qzy a1 h0 h1 hK,by unfold flR;dsimp only;omega,by unfold flR;dsimp only;omega⟩
theorem Qw9 {id n K:Int} (hK:0≤K) (h0:0≤n) (h1:n≤65535):(QkE id n).Ok K:=
 ⟨(QsR h0 h1).mono hK,by unfold QkE;dsimp only;omega,by unfold QkE;dsimp only;omega⟩
theorem QAs {l:List Fl} {K id n b:Int} (h:∀ f∈l,f.Ok K) (hl:(l.length:Int)≤K) (hK:0≤K) (h0:0≤n) (h1:n≤65535) (b0:0≤b) (b1:b≤1099511627776) :
  (∀ f∈QtD l id n b,f.Ok (K+1))∧((QtD l id n b).length:Int)≤K+1:=by
 have ho:(∀ f∈Qdi l id n,f.Ok K)∧((Qdi l id n).length:Int)≤K+1:=by
  unfold Qdi
  split
  ·exact ⟨h,by omega⟩
  ·refine ⟨fun f hf=>?_,by rw [List.length_append,List.length_singleton];omega⟩
   rcases List.mem_append.1 hf with hf | hf
   ·exact h f hf
   ·simp at hf;subst hf;exact Qw9 hK h0 h1
 obtain ⟨f1,hf1,_⟩:=Qhy l id n
 rw [QoY rfl rfl hf1]
 refine ⟨fun f hf=>?_,by rw [List.length_set];exact ho.2⟩
 rcases List.mem_or_eq_of_mem_set hf with hf | rfl
 ·exact (ho.1 f hf).mono (by omega)
 ·exact QDa (ho.1 _ (List.mem_of_getElem? hf1)) hK h0 h1 b0 b1
theorem QAt {l:List Fl} {K:Int} (h:∀ f∈l,f.Ok K) (k:Nat) (a b:Int):(∀ f∈QoH l k a b,f.Ok K)∧(QoH l k a b).length=l.length:=by
 unfold QoH
 refine ⟨?_,by simp⟩
 induction l generalizing k with
 | nil=>intro f hf;simp at hf
 | cons g l ih=>
  intro f hf
  cases k with
  | zero=>
   simp only [List.modify_zero_cons] at hf
   rcases List.mem_cons.1 hf with rfl | hf
   ·obtain ⟨q1,q2,q3⟩:=h g (List.mem_cons_self ..)
    exact ⟨q1,q2,q3⟩
   ·exact h f (List.mem_cons_of_mem _ hf)
  | succ k=>
   simp only [List.modify_succ_cons] at hf
   rcases List.mem_cons.1 hf with rfl | hf
   ·exact h _ (List.mem_cons_self ..)
   ·exact ih (fun x hx=>h x (List.mem_cons_of_mem _ hx)) k f hf
theorem Qxa {x:Rx} {K:Int} (h:x.Ok K) (hK:0≤K) {m:M6} (hm:m.Ok) (hd:m.data.length≤1500) {now len:Int} (hn:-1099511627776≤now∧now≤1099511627776) (l0:0≤len) (l1:len≤1099511627776):(QbH x m now len).Ok (K+1):=by
 have ht:=hm.time
 have hp:=hm.pseq
 obtain ⟨c1,c2⟩:=QAs (id:=m.path) (n:=m.pseq) (b:=len) h.fl h.ln hK hp.1 (by omega) l0 l1
 obtain ⟨j1,j2⟩:=QAt c1 (atR x.fl m.path) m.time now
 have hg:=Qw5 h.gp hK (Qhn x m.seq) now
 have hb:=(QCW h.fr (t:=m.time.toNat) (i:=m.idx) (c:=m.cnt) (now:=now) (s:=m.data) (by omega) (by omega) hn.1 hn.2).1
 have hb:(Qhj x.fr m.time.toNat m.idx m.cnt m.data now).1.Ok (1025 * (K+1)):=hb.mono' (by omega)
 have a0:=h.a0
 have a1:=h.a1
 have b0:=h.b0
 have b1:=h.b1
 have c0':=h.c0
 have c1':=h.c1
 have d0:=h.d0
 have d1:=h.d1
 have e0:=h.e0
 have e1:=h.e1
 have f0:=h.f0
 have f1:=h.f1
 unfold QbH
 dsimp only
 generalize Qhj x.fr m.time.toNat m.idx m.cnt m.data now=r at *
 split
 ·exact ⟨j1,by dsimp only;rw [j2];exact c2,hg,hb,by dsimp only;omega,by dsimp only;omega,by dsimp only;omega,by dsimp only;omega,by dsimp only;omega,by dsimp only;omega,by dsimp only;omega,by dsimp only;omega,by dsimp only;omega,by dsimp only;omega,by dsimp only;omega,by dsimp only;omega⟩
 ·split
  ·exact ⟨c1,c2,hg,hb,by dsimp only;omega,by dsimp only;omega,by dsimp only;omega,by dsimp only;omega,by dsimp only;omega,by dsimp only;omega,by dsimp only;omega,by dsimp only;omega,by dsimp only;omega,by dsimp only;omega,by dsimp only;omega,by dsimp only;omega⟩
  ·split
   ·exact ⟨c1,c2,hg,hb,by dsimp only;omega,by dsimp only;omega,by dsimp only;omega,by dsimp only;omega,by dsimp only;omega,by dsimp only;omega,by dsimp only;omega,by dsimp only;omega,by dsimp only;omega,by dsimp only;omega,by dsimp only;omega,by dsimp only;omega⟩
   ·exact ⟨c1,c2,hg,hb,by dsimp only;omega,by dsimp only;omega,by dsimp only;omega,by dsimp only;omega,by dsimp only;omega,by dsimp only;omega,by dsimp only;omega,by dsimp only;omega,by dsimp only;omega,by dsimp only;omega,by dsimp only;omega,by dsimp only;omega⟩
theorem Rx.Ok.mono {x:Rx} {K K':Int} (h:x.Ok K) (hk:K≤K'):x.Ok K':=by
 obtain ⟨a1,a2,a3,a4,a5,a6,a7,a8,a9,a10,a11,a12,a13,a14,a15,a16⟩:=h
 exact ⟨fun f hf=>(a1 f hf).mono hk,by omega,a3.mono hk,a4.mono' (by omega),a5,by omega,a7,by omega,a9,by omega,a11,by omega,a13,by omega,a15,by omega⟩
theorem Qeo {x:Rx} {K:Int} (h:x.Ok K) (hK:0≤K) (path:Int) {now:Int} {s:List UInt8} (hm:(Qa4 s).2=0→(Qa4 s).1.Ok∧(Qa4 s).1.data.length≤1500) (hs:s.length≤1099511627776) (hn:-1099511627776≤now∧now≤1099511627776):(QaY x path now s).1.Ok (K+1):=by
 unfold QaY
 dsimp only
 have h':=h.mono (K':=K+1) (by omega)
 obtain ⟨a1,a2,a3,a4,a5,a6,a7,a8,a9,a10,a11,a12,a13,a14,a15,a16⟩:=h'
 have b1:=h.b1
 have c1:=h.c1
 split
 ·exact ⟨a1,a2,a3,a4,a5,a6,by dsimp only;omega,by dsimp only;omega,a9,a10,a11,a12,a13,a14,a15,a16⟩
 ·rename_i he
  split
  ·exact ⟨a1,a2,a3,a4,a5,a6,a7,a8,by dsimp only;omega,by dsimp only;omega,a11,a12,a13,a14,a15,a16⟩
  ·split
   ·exact ⟨a1,a2,a3,a4,a5,a6,a7,a8,by dsimp only;omega,by dsimp only;omega,a11,a12,a13,a14,a15,a16⟩
   ·obtain ⟨m1,m2⟩:=hm (Decidable.of_not_not he)
    exact Qxa h hK m1 m2 hn (by omega) (by omega)
theorem QkL {x:Rx} {K:Int} (h:x.Ok K) (hK:0≤K) (now:Int):(QcW x now).1.Ok (K+1):=by
 have h':=h.mono (K':=K+1) (by omega)
 obtain ⟨a1,a2,a3,a4,a5,a6,a7,a8,a9,a10,a11,a12,a13,a14,a15,a16⟩:=h'
 unfold QcW
 dsimp only
 exact ⟨a1,a2,QAq h.gp hK now,(Qt9 h.fr now x.dl.now (Qb3 ⟨x.c.lo,x.c.hi,x.c.lo⟩).hi).1.mono' (by omega),a5,a6,a7,a8,a9,a10,a11,a12,a13,a14,a15,a16⟩
theorem Qny (c:RC):(Qen c).Ok 0:=
 ⟨(fun f hf=>by cases hf),by simp [Qen],QAo _ _ _ _,Qs0 _ _ _,by simp [Qen],by simp [Qen],by simp [Qen],by simp [Qen],by simp [Qen],by simp [Qen],by simp [Qen],by simp [Qen],by simp [Qen],by simp [Qen],by simp [Qen],by simp [Qen]⟩
end Go.Proofs.YthfocmakkeonoaaGreatDoor
namespace Go.Proofs.YthfocmakkeonoaaGreatDoor
open Go.RowKit
theorem Qo0 {α:Type} (c:Nat) (wr:α→List UInt8) (hw:∀ x,(wr x).length=c) (xs:List α):(xs.flatMap wr).length=c * xs.length:=by
 induction xs with
 | nil=>rfl
 | cons x xs ih=>rw [List.flatMap_cons,List.length_append,hw,ih,List.length_cons,Nat.mul_add];omega
def QqF (c:Nat) (l:List UInt8) (i:Nat):List UInt8:=(l.drop (4+c * i)).take c
def Qcq {α:Type} (may:α→Bool) (path:α→Int):Int→List α→Bool
 | _,[]=>true
 | last,x::xs=>may x && decide (last<path x) && Qcq may path (path x) xs
theorem Qus {α β:Type} (f:β→α) (may:α→Bool) (path:α→Int):∀ (last:Int) (xs:List β),Qcq may path last (xs.map f)=Qcq (fun y=>may (f y)) (fun y=>path (f y)) last xs
 | _,[]=>rfl
 | last,x::xs=>by rw [List.map_cons,Qcq,Qcq,Qus f may path]
theorem QiR {α:Type} (may:α→Bool) (path:α→Int) (hm:∀ x,may x=true→path x≤15):∀ (last:Int) (xs:List α),last≤15→Qcq may path last xs=true→(xs.length:Int)≤15-last
 | last,[],h0,_=>by simp;omega
 | last,x::xs,h0,h=>by
  simp only [Qcq,Bool.and_eq_true,decide_eq_true_eq] at h
  have h1:=hm x h.1.1
  have:=QiR may path hm (path x) xs h1 h.2
  rw [List.length_cons]
  omega
def Qnz {α:Type} (path:α→Int) (last:Int) (xs:List α):Int:=xs.foldl (fun _ x=>path x) last
theorem QjT {α:Type} (path:α→Int) (last:Int) (xs:List α) (x:α):Qnz path last (xs++[x])=path x:=by simp [Qnz]
theorem QgS {α:Type} (may:α→Bool) (path:α→Int) (x:α):∀ (last:Int) (xs:List α),Qcq may path last (xs++[x])=(Qcq may path last xs && (may x && decide (Qnz path last xs<path x)))
 | last,[]=>by rw [List.nil_append,Qcq,Qcq,Qcq,Bool.true_and,Bool.and_true];rfl
 | last,y::ys=>by
  rw [List.cons_append,Qcq,Qcq,QgS may path x (path y) ys,Bool.and_assoc,Bool.and_assoc,Bool.and_assoc]
  rfl
theorem Qmi {α:Type} (may:α→Bool) (path:α→Int):∀ (last:Int) (xs ys:List α),Qcq may path last (xs++ys)=true→Qcq may path last xs=true
 | _,[],_,_=>rfl
 | last,x::xs,ys,h=>by
  simp only [List.cons_append,Qcq,Bool.and_eq_true] at h ⊢
  exact ⟨h.1,Qmi may path _ xs ys h.2⟩
theorem Qmj {α:Type} (may:α→Bool) (path:α→Int) (last:Int) (xs:List α) (n:Nat) (h:Qcq may path last xs=true):Qcq may path last (xs.take n)=true:=by
 apply Qmi may path last _ (xs.drop n)
 rwa [List.take_append_drop]
section
variable {α:Type} (c:Nat) (rd:List UInt8→α) (wr:α→List UInt8) (may:α→Bool) (path:α→Int) (good:List UInt8→Bool)
def Qgd (l:List UInt8):Nat:=min 15 ((l.length-4) / c)
def Qyg (l:List UInt8):List α:=(List.range (Qgd c l)).map fun i=>rd (QqF c l i)
end
end Go.Proofs.YthfocmakkeonoaaGreatDoor
namespace Go.Proofs.YthfocmakkeonoaaGreatDoor
abbrev Pc:=Int × Int × List UInt8
def Qq6 (p:Pc):Bool:=decide (0≤p.1∧p.1≤31∧192≤p.2.1∧p.2.1≤223∧p.2.2.length % 4=0∧p.2.2.length≤262140)
theorem QhE (p:Pc):Qq6 p=true↔(0≤p.1∧p.1≤31∧192≤p.2.1∧p.2.1≤223∧p.2.2.length % 4=0∧p.2.2.length≤262140):=by simp [Qq6]
def Qge (p:Pc):Int:=if Qq6 p=true then 0 else 6
def QbA (p:Pc):List UInt8:=QaK (128+p.1) 1++(QaK p.2.1 1++(QaK (p.2.2.length / 4:Nat) 2++p.2.2))
def Qcc (l:List Pc):List UInt8:=if l.all Qq6=true then l.flatMap QbA else []
theorem Qdj (p:Pc):(QbA p).length=4+p.2.2.length:=by simp [QbA,Qaj];omega
end Go.Proofs.YthfocmakkeonoaaGreatDoor
namespace Go.Proofs.YthfocmakkeonoaaGreatDoor
open Go.RowKit
structure P10 where
 pid:Int
 blp:Int
 deriving DecidableEq
structure N10 where
 fr:Int
 ab:Int
 ps:List P10
def QiS (p:P10):List V:=[vh p.pid,vh p.blp]
def QDb (p:P10):List V:=[vi p.pid,vi p.blp]
attribute [go_sem] QiS QDb
abbrev Qut (n:N10):List V:=[vu n.fr,vu n.ab,.lst 2 (n.ps.map QiS)]
def prs (n T:Nat) (l:List UInt8):List P10:=(List.range n).map fun i=>⟨QaP ((l.drop (T+4 * i)).take 2),QaP ((l.drop (T+4 * i+2)).take 2)⟩
theorem Qxb (n T:Nat) (l:List UInt8):prs (n+1) T l=prs n T l++[⟨QaP ((l.drop (T+4 * n)).take 2),QaP ((l.drop (T+4 * n+2)).take 2)⟩]:=by
 unfold prs
 rw [List.range_succ,List.map_append]
 rfl
theorem QAu (n T:Nat) (l:List UInt8):(prs n T l).length=n:=by simp [prs]
def Qq7 (p:P10):List UInt8:=Qah 2 [p.pid,p.blp]
theorem Qo1 (p:P10):(Qq7 p).length=4:=by simp [Qq7,Qai]
def Qep (p:Pc):Int:=if p.2.1≠205∨p.1≠1 then 5 else if p.2.2.length<12 then 2 else if p.2.2.length % 4≠0∨1208<p.2.2.length then 1 else 0
def QgT (p:Pc):N10:=if Qep p=0 then ⟨QaP (p.2.2.take 4),QaP ((p.2.2.drop 4).take 4),prs ((p.2.2.length-8) / 4) 8 p.2.2⟩ else ⟨0,0,[]⟩
def QqG (n:N10):Pc:=if n.ps.length=0∨300<n.ps.length then (0,0,[]) else (1,205,Qah 4 [n.fr,n.ab]++n.ps.flatMap Qq7)
structure L11 where
 path:Int
 fr:Int
 lost:Int
 hi:Int
 ji:Int
 by':Int
 la:Int
 de:Int
 deriving DecidableEq
structure R11 where
 src:Int
 all:List L11
abbrev QDc (x:L11):List V:=[vi x.path,vi x.fr,vi x.lost,vu x.hi,vu x.ji,vu x.by',vu x.la,vu x.de]
def QiT (x:L11):List V:=QDc x
abbrev QFd (x:L11):List V:=[vi x.path,vi x.fr,vi x.lost,vi x.hi,vi x.ji,vi x.by',vi x.la,vi x.de]
def QDd (x:L11):List V:=QFd x
attribute [go_sem] QiT QDd
abbrev Qu8 (r:R11):List V:=[vu r.src,.lst 8 (r.all.map QiT)]
def sg3 (n:Int):Int:=if 8388608≤n then n-16777216 else n
def Qyh (s:List UInt8):L11:=⟨QaP (s.take 1),QaP ((s.drop 1).take 1),sg3 (QaP ((s.drop 4).take 3)),QaP ((s.drop 8).take 4),QaP ((s.drop 12).take 4),QaP ((s.drop 16).take 4),QaP ((s.drop 20).take 4),QaP ((s.drop 24).take 4)⟩
def Qjk (x:L11):List UInt8:=Qah 1 [x.path,x.fr]++Qah 2 [0]++Qah 3 [x.lost]++Qah 1 [0]++Qah 4 [x.hi,x.ji,x.by',x.la,x.de]
def Qc0 (x:L11):Bool:=decide (1≤x.path∧x.path≤15∧0≤x.fr∧x.fr≤255∧-8388608≤x.lost∧x.lost≤8388607)
theorem Qo2 (x:L11):(Qjk x).length=28:=by simp [Qjk,Qai]
structure A11 where
 path:Int
 up:Bool
 rate:Int
 deriving DecidableEq
structure S11 where
 src:Int
 all:List A11
abbrev QDG (x:A11):List V:=[vi x.path,vb x.up,vi x.rate]
def QiU (x:A11):List V:=QDG x
attribute [go_sem] QiU
abbrev Qu9 (r:S11):List V:=[vu r.src,.lst 3 (r.all.map QiU)]
def QDH (s:List UInt8):A11:=⟨QaP (s.take 1),decide (QaP ((s.drop 1).take 1)=1),QaP ((s.drop 2).take 2)⟩
def Qjl (x:A11):List UInt8:=Qah 1 [x.path,if x.up=true then 1 else 0]++Qah 2 [x.rate]
def Qdw (x:A11):Bool:=decide (1≤x.path∧x.path≤15∧0≤x.rate∧x.rate≤65535)
theorem Qo3 (x:A11):(Qjl x).length=4:=by simp [Qjl,Qai]
def Qva {α:Type} (f:Int) (may:α→Bool) (path:α→Int) (wr:α→List UInt8) (src:Int) (xs:List α):Pc:=if Qcq may path 0 xs=true then (f,211,QaK src 4++xs.flatMap wr) else (0,0,[])
def QiV (r:R11):Pc:=if r.all.length=0 then (0,0,[]) else Qva 1 Qc0 (fun x=>x.path) Qjk r.src r.all
def QDI (r:S11):Pc:=Qva 2 Qdw (fun x=>x.path) Qjl r.src r.all
def Qgf (l:List UInt8):R11:=⟨vl 4 (l,0),Qyg 28 Qyh l⟩
def Qmk (l:List UInt8):S11:=⟨vl 4 (l,0),Qyg 4 QDH l⟩
def QcF (p:Pc):Int:=if p.2.1≠211∨p.1≠1 then 5 else if QiV (Qgf p.2.2)=p then 0 else 1
def Qdx (p:Pc):R11:=if QcF p=0 then Qgf p.2.2 else ⟨0,[]⟩
def QnA (p:Pc):Int:=if p.2.1≠211∨p.1≠2 then 5 else if QDI (Qmk p.2.2)=p then 0 else 1
def QqH (p:Pc):S11:=if QnA p=0 then Qmk p.2.2 else ⟨0,[]⟩
theorem QAv (x:L11) (h:Qc0 x=true):x.path≤15:=by
 unfold Qc0 at h
 rw [decide_eq_true_eq] at h
 omega
theorem QAw (x:A11) (h:Qdw x=true):x.path≤15:=by
 unfold Qdw at h
 rw [decide_eq_true_eq] at h
 omega
def QkM (b:List UInt8) (j:Nat):List L11:=(List.range j).map fun i=>Qyh (QqF 28 b i)
theorem QqI (b:List UInt8) (j:Nat):QkM b (j+1)=QkM b j++[Qyh (QqF 28 b j)]:=by
 unfold QkM
 rw [List.range_succ,List.map_append]
 rfl
theorem Qml (b:List UInt8) (j:Nat):(QkM b j).length=j:=by simp [QkM]
def QkN (b:List UInt8) (j:Nat):List A11:=(List.range j).map fun i=>QDH (QqF 4 b i)
theorem QqJ (b:List UInt8) (j:Nat):QkN b (j+1)=QkN b j++[QDH (QqF 4 b j)]:=by
 unfold QkN
 rw [List.range_succ,List.map_append]
 rfl
theorem Qmm (b:List UInt8) (j:Nat):(QkN b j).length=j:=by simp [QkN]
end Go.Proofs.YthfocmakkeonoaaGreatDoor
namespace Go.Proofs.YthfocmakkeonoaaGreatDoor
open Go.RowKit
def hEl (n:Int):List V:=[vh n]
attribute [go_sem] hEl
def QqK (acc:List Int) (n:Int):List Int:=if n∈acc then acc else acc++[n]
def Qcr (l:List Int):List Int:=l.foldl QqK []
theorem Qxc (acc:List Int) (n:Int):(QqK acc n).length≤acc.length+1:=by unfold QqK;split <;> simp
theorem QkO (l:List Int):(Qcr l).length≤l.length:=by
 have key:∀ (l acc:List Int),(l.foldl QqK acc).length≤acc.length+l.length:=by
  intro l
  induction l with
  | nil=>intro acc;simp
  | cons n l ih=>intro acc;have:=ih (QqK acc n);have:=Qxc acc n;simp only [List.foldl_cons,List.length_cons];omega
 have:=key l []
 simpa [Qcr] using this
def hM (l:List Int):List (Value × T):=l.map fun n=>(Value.int .u16 n,T.av (.agg []))
theorem QAx (l:List Int):QeX (.int .u16) ((hM l).map (·.1))=True:=eq_true (QfG fun k hk=>by
 obtain ⟨p,hp,rfl⟩:=List.mem_map.1 hk
 obtain ⟨z,hz,rfl⟩:=List.mem_map.1 hp
 rfl)
theorem Qyi:∀ (l:List Int) (n:Int),Qdc (hM l) (.int .u16 n)=if n∈l then some (.av (.agg [])) else none
 | [],n=>rfl
 | x::l,n=>by
  have ih:=Qyi l n
  unfold hM at ih ⊢
  rw [List.map_cons,Qdc]
  by_cases h:x=n
  ·rw [if_pos (by rw [h]),if_pos (by simp [h])]
  ·rw [if_neg (fun e=>h (by injection e)),ih]
   have:n∈x::l↔n∈l:=by
    constructor
    ·intro q
     rcases List.mem_cons.1 q with q | q
     ·exact absurd q.symm h
     ·exact q
    ·exact List.mem_cons_of_mem _
   simp only [this]
theorem Qyj:∀ (l:List Int) (n:Int),n∉l→QcI (hM l) (.int .u16 n) (.av (.agg []))=hM (l++[n])
 | [],n,_=>rfl
 | x::l,n,h=>by
  have ih:=Qyj l n (fun q=>h (List.mem_cons_of_mem _ q))
  unfold hM at ih ⊢
  rw [List.map_cons,Qgt,if_neg (fun e=>h (by injection e with e1 e2;rw [e2];exact List.mem_cons_self ..)),ih]
  rfl
attribute [go_sem] QAx
theorem Qxd (l:List Int) (hl:l.length≤1000000):Qan Tryz.prog 200 [.ca (.val (.lst 1 (l.map hEl)))] [] (.ca (.val (.lst 1 ((Qcr l).map hEl)))) []:=by
 refine Qaa Tryz.func200 rfl Tryz.ntmps200 Tryz.results200 ⟨by decide,by simp⟩ fun C hC=>?_
 (repeat' ((fail_if_success (first | refine Qas 3 ?_ | refine Qay 3 ?_));(first | refine sp_ ?_ | exact ex0 | exact re0 [])))
 refine Qij 4 (4,1) 40 1 ?_
 refine sx_ ?_
 (repeat' ((fail_if_success (refine Qat 4 ?_));(first | refine sp_ ?_ | exact ex0 | exact re0 [])))
 refine QaD (α:={i:Nat // i≤l.length}) (fun i=>[(.s 0,.av (.val (.lst 1 (l.map hEl)))),(.s 10,.av (.val (.lst 1 (l.map hEl)))),(.r (9,1),.tree (.mp (hM (Qcr (l.take i.1))))),(.s 3,.av (.ref (9,1) 0)),(.k (4,1),.row 40 1 (Qcr (l.take i.1)).length),(.s 4,.av (.own (4,1) 0 40 1 ((Qcr (l.take i.1)).map hEl))),(.s 11,.av (.val (vi l.length))),(.s 12,.av (.val (vi i.1)))]) (fun i=>l.length-i.1) ⟨0,Nat.zero_le _⟩ ?_ (fun i=>?_)
 ·refine sx_ ?_
  exact ⟨rfl,rfl⟩
 obtain ⟨i,hi⟩:=i
 dsimp only at hi ⊢
 by_cases hlt:i<l.length
 ·have hltz:(i:Int)<l.length:=by omega
  have e1:Qcr (l.take (i+1))=QqK (Qcr (l.take i)) l[i]:=by
   unfold Qcr
   rw [List.take_succ_eq_append_getElem hlt,List.foldl_append];rfl
  have hb:=QkO (l.take i)
  rw [List.length_take] at hb
  generalize Qcr (l.take i)=D at *
  have hg:=Qyi D l[i]
  by_cases hm:l[i]∈D
  ·rw [if_pos hm] at hg
   have e2:QqK D l[i]=D:=by unfold QqK;rw [if_pos hm]
   repeat' first | refine sp_ ?_ | exact ex0 | exact re0 []
   simp only [hg]
   repeat' first | refine sp_ ?_ | exact ex0 | exact re0 []
   refine Qau (α:={i:Nat // i≤l.length}) ⟨i+1,hlt⟩ ⟨?_,by (try dsimp only);omega⟩
   (try dsimp only)
   rw [e1,e2]
   exact ex0
  ·rw [if_neg hm] at hg
   have e2:QqK D l[i]=D++[l[i]]:=by unfold QqK;rw [if_neg hm]
   have hs:=Qyj D l[i] hm
   have e3:(D++[l[i]]).map hEl=D.map hEl++[[vh l[i]]]:=by rw [List.map_append];rfl
   repeat' first | refine sp_ ?_ | exact ex0 | exact re0 []
   simp only [hg]
   repeat' first | refine sp_ ?_ | exact ex0 | (refine Qap [] ?_;simp (decide:=true) (disch:=omega) only [go_sem,↓reduceIte,↓Qad])
   (try simp only [hs])
   repeat' first | refine sp_ ?_ | exact ex0 | exact re0 []
   refine Qau (α:={i:Nat // i≤l.length}) ⟨i+1,hlt⟩ ⟨?_,by (try dsimp only);omega⟩
   (try dsimp only)
   rw [e1,e2,e3]
   simp (decide:=true) (disch:=omega) only [go_sem,↓reduceIte,↓Qad]
   (try simp)
 ·obtain rfl:i=l.length:=by omega
  rw [List.take_length]
  repeat' first | refine sp_ ?_ | exact ex0 | exact re0 []
theorem QnB (n:Int):0≤IntKind.u16.wrap n∧IntKind.u16.wrap n≤65535:=by rw [IntKind.wrap_u16];omega
def orP (b d:Int):Int:=Qhh .or .u16 b (IntKind.u16.wrap (1 * 2 ^ (min (d-1).toNat 16)))
theorem QDe (b d:Int):0≤orP b d∧orP b d≤65535:=QnB _
def Qgg (p:P10) (n:Int):P10 × Bool:=if d16 p.pid n<1∨16<d16 p.pid n then (p,false) else (⟨p.pid,orP p.blp (d16 p.pid n)⟩,true)
abbrev QFB (p:P10):List CA:=[.val (vh p.pid),.val (vh p.blp)]
theorem Quu (p:P10) (n:Int):Qan Tryz.prog 201 [.ptr 0 0,.ca (.val (vh n))] [QFB p] (.ca (.val (vb (Qgg p n).2))) [QFB (Qgg p n).1]:=by
 obtain ⟨pid,blp⟩:=p
 have c:=Qol pid n
 have hd:=Qok pid n
 unfold Qgg
 dsimp only
 generalize d16 pid n=d at *
 by_cases h1:d<1
 ·rw [if_pos (.inl h1)]
  refine Qaa Tryz.func201 rfl Tryz.ntmps201 Tryz.results201 ⟨by decide,by simp⟩ fun C hC=>?_
  repeat' first | refine sp_ ?_ | exact ex0 | refine Qab Tryz.call136 (c) [] ex1 ?_ | exact re0 []
 ·by_cases h2:16<d
  ·rw [if_pos (.inr h2)]
   refine Qaa Tryz.func201 rfl Tryz.ntmps201 Tryz.results201 ⟨by decide,by simp⟩ fun C hC=>?_
   repeat' first | refine sp_ ?_ | exact ex0 | refine Qab Tryz.call136 (c) [] ex1 ?_ | exact re0 []
  ·rw [if_neg (by omega)]
   have ho:orP blp d=Qhh .or .u16 blp (IntKind.u16.wrap (1 * 2 ^ (min (d-1).toNat 16))):=rfl
   generalize orP blp d=o at *
   refine Qaa Tryz.func201 rfl Tryz.ntmps201 Tryz.results201 ⟨by decide,by simp⟩ fun C hC=>?_
   repeat' first | refine sp_ ?_ | exact ex0 | refine Qab Tryz.call136 (c) [] ex1 ?_ | (refine Qap [] ?_;simp (decide:=true) (disch:=omega) only [go_sem,↓reduceIte,↓Qad])
   rw [ho,Nat.min_eq_left (by omega)]
   rfl
def inP (st:P10 × List Int) (n:Int):P10 × List Int:=((Qgg st.1 n).1,if (Qgg st.1 n).2=true then st.2 else st.2++[n])
def Qcs:Nat→List Int→List P10
 | 0,_=>[]
 | _+1,[]=>[]
 | k+1,n::l=>(l.foldl inP (⟨n,0⟩,[])).1::Qcs k (l.foldl inP (⟨n,0⟩,[])).2
def QdM (l:List Int):List P10:=Qcs (Qcr l).length (Qcr l)
theorem QkP:∀ (l:List Int) (st:P10 × List Int),(l.foldl inP st).2.length≤st.2.length+l.length
 | [],st=>by simp
 | n::l,st=>by
  have:=QkP l (inP st n)
  have h:(inP st n).2.length≤st.2.length+1:=by unfold inP;dsimp only;split <;> simp
  simp only [List.foldl_cons,List.length_cons]
  omega
theorem QiW:∀ (k j:Nat) (l:List Int),l.length≤k→l.length≤j→Qcs k l=Qcs j l
 | 0,0,_,_,_=>rfl
 | 0,j+1,[],_,_=>rfl
 | 0,_+1,_::_,h,_=>by simp at h
 | k+1,0,[],_,_=>rfl
 | _+1,0,_::_,_,h=>by simp at h
 | k+1,j+1,[],_,_=>rfl
 | k+1,j+1,n::l,h1,h2=>by
  simp only [List.length_cons] at h1 h2
  have:=QkP l (⟨n,0⟩,[])
  simp only [List.length_nil] at this
  rw [Qcs,Qcs,QiW k j _ (by omega) (by omega)]
theorem QjU:∀ (k:Nat) (l:List Int),(Qcs k l).length≤k
 | 0,_=>by simp [Qcs]
 | k+1,[]=>by simp [Qcs]
 | k+1,n::l=>by rw [Qcs,List.length_cons];have:=QjU k (l.foldl inP (⟨n,0⟩,[])).2;omega
theorem Quv (p:P10) (n:Int):(Qgg p n).1.pid=p.pid∧(p.blp=0∨0≤p.blp∧p.blp≤65535→0≤(Qgg p n).1.blp∧(Qgg p n).1.blp≤65535):=by
 unfold Qgg
 split
 ·exact ⟨rfl,fun h=>by dsimp only;omega⟩
 ·exact ⟨rfl,fun _=>QDe _ _⟩
theorem Qyk:∀ (l:List Int) (st:P10 × List Int),(∀ n∈l,0≤n∧n≤65535)→(∀ n∈st.2,0≤n∧n≤65535)→(0≤st.1.pid∧st.1.pid≤65535)→(0≤st.1.blp∧st.1.blp≤65535) →
  (∀ n∈(l.foldl inP st).2,0≤n∧n≤65535)∧(0≤(l.foldl inP st).1.pid∧(l.foldl inP st).1.pid≤65535)∧(0≤(l.foldl inP st).1.blp∧(l.foldl inP st).1.blp≤65535)
 | [],st,_,h2,h3,h4=>⟨h2,h3,h4⟩
 | n::l,st,h1,h2,h3,h4=>by
  obtain ⟨q1,q2⟩:=Quv st.1 n
  refine Qyk l (inP st n) (fun m hm=>h1 m (List.mem_cons_of_mem _ hm)) (fun m hm=>?_) (by unfold inP;dsimp only;rw [q1];exact h3) (by unfold inP;exact q2 (.inr h4))
  unfold inP at hm
  dsimp only at hm
  split at hm
  ·exact h2 m hm
  ·rcases List.mem_append.1 hm with h | h
   ·exact h2 m h
   ·simp at h;subst h;exact h1 _ (List.mem_cons_self ..)
theorem Qmn:∀ (k:Nat) (l:List Int),(∀ n∈l,0≤n∧n≤65535)→∀ p∈Qcs k l,(0≤p.pid∧p.pid≤65535)∧(0≤p.blp∧p.blp≤65535)
 | 0,_,_,p,h=>by cases h
 | k+1,[],_,p,h=>by cases h
 | k+1,n::l,h1,p,h=>by
  obtain ⟨q1,q2,q3⟩:=Qyk l (⟨n,0⟩,[]) (fun m hm=>h1 m (List.mem_cons_of_mem _ hm)) (fun m hm=>by cases hm) (h1 n (List.mem_cons_self ..)) ⟨by dsimp only;omega,by dsimp only;omega⟩
  rw [Qcs] at h
  rcases List.mem_cons.1 h with rfl | h
  ·exact ⟨q2,q3⟩
  ·exact Qmn k _ q1 p h
theorem QAy (l:List Int) (h:∀ n∈l,0≤n∧n≤65535):∀ n∈Qcr l,0≤n∧n≤65535:=by
 have key:∀ (l acc:List Int),(∀ n∈l,0≤n∧n≤65535)→(∀ n∈acc,0≤n∧n≤65535)→∀ n∈l.foldl QqK acc,0≤n∧n≤65535:=by
  intro l
  induction l with
  | nil=>intro acc _ h;exact h
  | cons x l ih=>
   intro acc h1 h2
   refine ih (QqK acc x) (fun m hm=>h1 m (List.mem_cons_of_mem _ hm)) fun m hm=>?_
   unfold QqK at hm
   split at hm
   ·exact h2 m hm
   ·rcases List.mem_append.1 hm with h | h
    ·exact h2 m h
    ·simp at h;subst h;exact h1 _ (List.mem_cons_self ..)
 exact key l [] h (fun n hn=>by cases hn)
theorem QqL (l:List Int) (hl:l.length≤1000000):Qan Tryz.prog 162 [.ca (.val (.lst 1 (l.map hEl)))] [] (.ca (.val (.lst 2 ((QdM l).map QiS)))) []:=by
 have cd:=Qxd l hl
 have hdl:=QkO l
 unfold QdM
 generalize Qcr l=L0 at *
 generalize hR:Qcs L0.length L0=R
 refine Qaa Tryz.func162 rfl Tryz.ntmps162 Tryz.results162 ⟨by decide,by simp⟩ fun C hC=>?_
 (repeat' ((fail_if_success (refine Qat 3 ?_));(first | refine sp_ ?_ | exact ex0 | refine Qab Tryz.call200 (cd) [] ex1 ?_ | exact re0 [])))
 refine Qij 3 (3,1) 287 2 ?_
 refine sx_ ?_
 refine QaD (α:={x:List Int × List P10 // x.1.length≤1000000∧x.2.length+x.1.length≤1000000∧x.2++Qcs x.1.length x.1=R}) (fun x=>[(.s 0,.av (.val (.lst 1 (x.1.1.map hEl)))),(.k (3,1),.row 287 2 x.1.2.length),(.s 3,.av (.own (3,1) 0 287 2 (x.1.2.map QiS)))]) (fun x=>x.1.1.length) ⟨(L0,[]),by dsimp only;omega,by dsimp only;simp;omega,by simpa using hR⟩ ?_ (fun x=>?_)
 ·exact ex0
 obtain ⟨⟨L,out⟩,h1,h2,h3⟩:=x
 dsimp only at h1 h2 h3 ⊢
 cases L with
 | nil=>
  simp only [List.length_nil,Qcs,List.append_nil] at h3
  subst h3
  repeat' first | refine sp_ ?_ | exact ex0 | exact re0 []
 | cons n L=>
  simp only [List.length_cons,List.map_cons] at h1 h2 h3 ⊢
  have hz:(0:Int)<(L.length:Int)+1:=by omega
  (repeat' ((fail_if_success (first | refine Qas 6 ?_ | refine Qay 6 ?_));(first | refine sp_ ?_ | exact ex0 | exact re0 [])))
  refine Qij 5 (5,1) 40 1 ?_
  refine sx_ ?_
  (repeat' ((fail_if_success (refine Qat 7 ?_));(first | refine sp_ ?_ | exact ex0 | exact re0 [])))
  refine QaD (α:={i:Nat // i≤L.length}) (fun i=>[(.k (3,1),.row 287 2 out.length),(.s 3,.av (.own (3,1) 0 287 2 (out.map QiS))),(.o (4,0),.num 2),(.c (4,0) 0,.av (.val (vh ((L.take i.1).foldl inP (⟨n,0⟩,[])).1.pid))),(.c (4,0) 1,.av (.val (vh ((L.take i.1).foldl inP (⟨n,0⟩,[])).1.blp))),(.s 4,.av (.ptr (4,0) 0 0)),(.k (5,1),.row 40 1 ((L.take i.1).foldl inP (⟨n,0⟩,[])).2.length),(.s 5,.av (.own (5,1) 0 40 1 (((L.take i.1).foldl inP (⟨n,0⟩,[])).2.map hEl))),(.s 18,.av (.val (.lst 1 (L.map hEl)))),(.s 19,.av (.val (vi L.length))),(.s 20,.av (.val (vi i.1)))]) (fun i=>L.length-i.1) ⟨0,Nat.zero_le _⟩ ?_ (fun i=>?_)
  ·simp (decide:=true) (disch:=omega) only [go_sem,↓reduceIte,↓Qad]
   (try simp)
   (try exact (List.take_of_length_le (by rw [List.length_map];exact Nat.le_refl _)).symm)
  obtain ⟨i,hi⟩:=i
  dsimp only at hi ⊢
  by_cases hlt:i<L.length
  ·have hltz:(i:Int)<L.length:=by omega
   have e1:(L.take (i+1)).foldl inP (⟨n,0⟩,[])=inP ((L.take i).foldl inP (⟨n,0⟩,[])) L[i]:=by
    rw [List.take_succ_eq_append_getElem hlt,List.foldl_append];rfl
   have hb:=QkP (L.take i) (⟨n,0⟩,[])
   rw [List.length_take,List.length_nil] at hb
   generalize (L.take i).foldl inP (⟨n,0⟩,[])=D at *
   obtain ⟨p,lf⟩:=D
   dsimp only at hb ⊢
   have ct:=Quu p L[i]
   cases ht:(Qgg p L[i]).2 with
   | true=>
    rw [ht] at ct
    have e2:inP (p,lf) L[i]=((Qgg p L[i]).1,lf):=by unfold inP;dsimp only;rw [ht,if_pos rfl]
    generalize (Qgg p L[i]).1=p2 at *
    repeat' first | refine sp_ ?_ | exact ex0 | refine Qab Tryz.call201 (ct) [(4,0)] ex1 ?_ | exact re0 []
    refine Qau (α:={i:Nat // i≤L.length}) ⟨i+1,hlt⟩ ⟨?_,by (try dsimp only);omega⟩
    (try dsimp only)
    rw [e1,e2]
    exact ex0
   | false=>
    rw [ht] at ct
    have e2:inP (p,lf) L[i]=((Qgg p L[i]).1,lf++[L[i]]):=by unfold inP;dsimp only;rw [ht,if_neg (by decide)]
    have e3:(lf++[L[i]]).map hEl=lf.map hEl++[[vh L[i]]]:=by rw [List.map_append];rfl
    generalize (Qgg p L[i]).1=p2 at *
    repeat' first | refine sp_ ?_ | exact ex0 | refine Qab Tryz.call201 (ct) [(4,0)] ex1 ?_ | exact re0 []
    refine Qau (α:={i:Nat // i≤L.length}) ⟨i+1,hlt⟩ ⟨?_,by (try dsimp only);omega⟩
    (try dsimp only)
    rw [e1,e2]
    dsimp only
    rw [e3]
    simp (decide:=true) (disch:=omega) only [go_sem,↓reduceIte,↓Qad]
    (try simp)
  ·obtain rfl:i=L.length:=by omega
   rw [List.take_length]
   have hb:=QkP L (⟨n,0⟩,[])
   rw [List.length_nil] at hb
   rw [Qcs] at h3
   generalize L.foldl inP (⟨n,0⟩,[])=D at *
   obtain ⟨p,lf⟩:=D
   dsimp only at hb h3 ⊢
   have e3:(out++[p]).map QiS=out.map QiS++[[vh p.pid,vh p.blp]]:=by rw [List.map_append];rfl
   repeat' first | refine sp_ ?_ | exact ex0 | exact re0 []
   refine Qau (α:={x:List Int × List P10 // x.1.length≤1000000∧x.2.length+x.1.length≤1000000∧x.2++Qcs x.1.length x.1=R}) ⟨(lf,out++[p]),by dsimp only;omega,by dsimp only;simp;omega,by dsimp only;rw [QiW lf.length L.length lf (by omega) (by omega),List.append_assoc];exact h3⟩ ⟨?_,by (try dsimp only);simp only [List.length_cons];omega⟩
   (try dsimp only)
   rw [e3]
   simp (decide:=true) (disch:=omega) only [go_sem,↓reduceIte,↓Qad]
   (try simp)
theorem Qxe (fr ab:Int) (l:List Int) (hl:l.length≤1000000):Qan Tryz.prog 103 [.ca (.val (vu fr)),.ca (.val (vu ab)),.ca (.val (.lst 1 (l.map hEl)))] [] (.ca (.val (.agg (Qut ⟨fr,ab,QdM l⟩)))) []:=by
 have c:=QqL l hl
 generalize QdM l=ps at *
 refine Qaa Tryz.func103 rfl Tryz.ntmps103 Tryz.results103 ⟨by decide,by simp⟩ fun C hC=>?_
 repeat' first | refine sp_ ?_ | exact ex0 | refine Qab Tryz.call162 (c) [] ex1 ?_ | exact re0 []
end Go.Proofs.YthfocmakkeonoaaGreatDoor
