/- Package receiver (layer 27): a step ahead of a report's time, where no path is there; walked. -/
import Derived.Test.YthfocmakkeonoaaGreatDoorNotes2z
import Derived.Test.YthfocmakkeonoaaGreatDoorRcv4z
import Derived.Test.YthfocmakkeonoaaGreatDoorNotes2z
import Derived.Test.YthfocmakkeonoaaGreatDoorCmp4z
import Derived.Test.YthfocmakkeonoaaGreatDoorNotes2z
import Derived.Test.YthfocmakkeonoaaGreatDoorBuf7z
import Derived.Test.YthfocmakkeonoaaGreatDoorTab2z
import Derived.Test.YthfocmakkeonoaaGreatDoorNack2z
set_option linter.unusedVariables false
set_option linter.unusedSimpArgs false
set_option maxRecDepth 100000
set_option maxHeartbeats 16000000
namespace Go.Proofs.YthfocmakkeonoaaGreatDoor
open Go.RowKit
structure RC.Ok (c:RC):Prop where
 src:0≤c.src∧c.src<4294967296
 ab:0≤c.ab∧c.ab<4294967296
 nm:c.nm.length≤255
def QAS (x:Rx):List Pc:=[Qe2 ⟨x.c.src,false,⟨0,0,0,0⟩,Qvc x⟩,QdU [⟨x.c.src,x.c.nm⟩]]
theorem QuY (x:Rx) (h:0≤x.c.ab∧x.c.ab<4294967296):(∀ b∈Qvc x,b.Ok)∧(Qvc x).length≤1:=by
 unfold Qvc
 split
 ·refine ⟨fun b hb=>?_,by simp⟩
  simp at hb
  subst hb
  exact ⟨h,by dsimp only;omega,by dsimp only;omega,by dsimp only;omega,by dsimp only;omega⟩
 ·exact ⟨fun b hb=>(by cases hb),by simp⟩
theorem QxD (x:Rx) (h:x.c.Ok):(∀ p∈QAS x,p.2.2.length≤100000):=by
 intro p hp
 unfold QAS at hp
 simp only [List.mem_cons,List.not_mem_nil,or_false] at hp
 rcases hp with rfl | rfl
 ·unfold Qe2
  split
  ·have h2:=QAG ⟨x.c.src,false,⟨0,0,0,0⟩,Qvc x⟩
   have h3:=(QuY x h.ab).2
   dsimp only
   rw [List.length_append,QkR]
   omega
  ·dsimp only;simp
 ·unfold QdU
  split
  ·rename_i q
   have:=Qo5 _ q.2
   dsimp only
   simp only [List.length_singleton] at this
   omega
  ·dsimp only;simp
theorem QAT (x:Rx) (due:List Int):(QA9 x due).length≤1∧∀ p∈QA9 x due,p.2.2.length≤100000:=by
 unfold QA9
 dsimp only
 split
 ·exact ⟨by simp,fun p hp=>by cases hp⟩
 ·refine ⟨by simp,fun p hp=>?_⟩
  simp at hp
  subst hp
  unfold QqG
  split
  ·simp
  ·rename_i q
   dsimp only at q ⊢
   rw [List.length_append,Qo0 4 Qq7 Qo1,Qai]
   simp only [List.length_cons,List.length_nil]
   omega
theorem Qgk (x:Rx) {K:Int} (h:x.Ok K) (hK:0≤K∧K≤400) (hc:x.c.Ok) (htb:x.tb.l=[]) (hdl:0≤x.dl.now∧x.dl.now≤1048576) (now:Int) (hn:0≤now∧now≤1099511627776) (hdue:now<x.due) :
  Qan Tryz.prog 11 [.ptr 0 0,.ca (.val (vi now))] [rxO x] (.ca (.val (.tup [.any,.lst 2 ((QcW x now).2.map plE)]))) [rxO (QcW x now).1]:=by
 have hft:=QeB ⟨x.c.lo,x.c.hi,x.c.lo⟩
 have cm:=Qxj x.c
 have hfo:=h.fr
 have hfl:=hfo.len
 have cp:=QxB x.fr now x.dl.now (Qb3 ⟨x.c.lo,x.c.hi,x.c.lo⟩).hi ⟨hfo.fr,by dsimp only;simp;omega,hfo.c0,by have:=hfo.c1;dsimp only;omega,hfo.d0,by have:=hfo.d1;dsimp only;omega⟩ (by omega) (by omega) (by omega)
 have hgo:=h.gp
 have hg1:=hgo.m1
 have hgl:=hgo.ln
 have hgv:=hgo.v1
 have cd:=QC7 x.gp now (by omega) hgo.ww ⟨hgo.v0,by omega⟩
 have hdlen:(Qwn x.gp now).2.length≤1024:=by
  have:=(QhC x.gp.t (QcD now) x.gp.l).1
  unfold Qwn
  dsimp only
  omega
 unfold QcW
 dsimp only
 generalize hR:Qfh x.fr now x.dl.now (Qb3 ⟨x.c.lo,x.c.hi,x.c.lo⟩).hi=R at *
 obtain ⟨b2,PL,GO⟩:=R
 generalize (Qb3 ⟨x.c.lo,x.c.hi,x.c.lo⟩).hi=most at *
 generalize hD:Qwn x.gp now=D at *
 obtain ⟨gp2,due⟩:=D
 dsimp only at *
 obtain ⟨y,hy⟩:∃ y:Rx,y = { x with gp:=gp2,fr:=b2 }:=⟨_,rfl⟩
 have hyc:y.c=x.c:=by rw [hy]
 have cb:=Quz y
 have ca:=QuA y due hdlen (by rw [hyc];exact hc.src) (by rw [hyc];exact hc.ab)
 obtain ⟨bo1,bo2⟩:=QuY y (by rw [hyc];exact hc.ab)
 have crp:=Qmp ⟨y.c.src,false,⟨0,0,0,0⟩,Qvc y⟩ ⟨by rw [hyc];exact hc.src,⟨by dsimp only;omega,by dsimp only;omega,by dsimp only;omega⟩,bo1⟩ (by dsimp only;omega)
 have cnn:=Qi0 [⟨y.c.src,y.c.nm⟩] (by unfold maxLen;simp) (fun z hz=>by
  simp at hz
  subst hz
  exact ⟨by rw [hyc];exact hc.src,by show y.c.nm.length≤maxLen;have:=hc.nm;rw [hyc];unfold maxLen;omega⟩)
 have ho:=QxD y (by rw [hyc];exact hc)
 obtain ⟨ao1,ao2⟩:=QAT y due
 unfold QAS at ho
 generalize Qe2 ⟨y.c.src,false,⟨0,0,0,0⟩,Qvc y⟩=p1 at *
 generalize QdU [⟨y.c.src,y.c.nm⟩]=p2 at *
 generalize Qvc y=bs at *
 generalize QA9 y due=asd at *
 have cc1:=Qhe [[p1,p2],asd,[]] (by simp) (fun l hl=>by
  simp at hl
  rcases hl with rfl | rfl | rfl
  ·simp
  ·omega
  ·simp)
 have cc2:=Qhe [[p1,p2],[]] (by simp) (fun l hl=>by
  simp at hl
  rcases hl with rfl | rfl <;> simp)
 have hf1:[[p1,p2],asd,[]].flatten=[p1,p2]++asd:=by simp
 have hf2:[[p1,p2],([]:List Pc)].flatten=[p1,p2]:=by simp
 rw [hf1] at cc1
 rw [hf2] at cc2
 have ck1:=Qpf ([p1,p2]++asd) ⟨by simp;omega,fun p hp=>by
  rcases List.mem_append.1 hp with hp | hp
  ·exact ho p hp
  ·exact ao2 p hp⟩
 have ck2:=Qpf [p1,p2] ⟨by simp,ho⟩
 generalize hP1:Qxx ([p1,p2]++asd)=d1 at *
 generalize Qxx [p1,p2]=d2 at *
 generalize hL1:([p1,p2]++asd).map Qfo=L1 at *
 simp only [List.map_cons,List.map_nil] at cc1 cc2 ck2 crp cnn
 have ctu:=QGB x.tb (by rw [htb];simp)
 rw [htb,show Qrb []=[] from rfl] at ctu
 rw [←hy]
 have e1:x.c=y.c:=hyc.symm
 have e2:x.tb=y.tb:=by rw [hy]
 have e3:x.fl=y.fl:=by rw [hy]
 have e4:x.kp=y.kp:=by rw [hy]
 have e5:x.any=y.any:=by rw [hy]
 have e6:x.gr=y.gr:=by rw [hy]
 have e7:x.dl=y.dl:=by rw [hy]
 have e8:x.due=y.due:=by rw [hy]
 have e9:x.gone=y.gone:=by rw [hy]
 have e10:x.ct=y.ct:=by rw [hy]
 have e11:gp2=y.gp:=by rw [hy]
 have e12:b2=y.fr:=by rw [hy]
 unfold rxO rxG at *
 rw [e8] at hdue
 rw [e1] at cm
 rw [e7] at cp hdl
 rw [e2] at ctu
 rw [e11] at cd
 rw [e12] at cp
 rw [e1,e2,e3,e4,e5,e6,e7,e8,e9,e10]
 clear e1 e2 e3 e4 e5 e6 e7 e8 e9 e10 e11 e12 hy hyc h hfo hgo hc
 generalize x.gp=gp at *
 generalize x.fr=fr at *
 clear hR hD hn hdlen hgl hgv hg1 hfl hft htb hK
 obtain ⟨c0,tb0,fl0,kp0,any0,gr0,gp0,fr0,dl0,due0,gone0,ct0⟩:=y
 dsimp only at *
 refine Qaa Tryz.func11 rfl Tryz.ntmps11 Tryz.results11 ⟨by decide,by simp⟩ fun C hC=>?_
 refine QsO hC (1000,21) 117 [((1000,0),20)] [] (QcL fr) ⟨rfl,rfl⟩ ⟨by simp (decide:=true) (disch:=omega) only [go_sem,↓reduceIte,↓Qad];(try rfl),?_⟩
 (repeat' ((fail_if_success (first | refine Qas 2 ?_ | refine Qay 2 ?_));(first | refine sp_ ?_ | exact ex0 | refine Qab Tryz.call35 (cm) [] ex1 ?_ | refine Qab Tryz.call34 (cp) [(117,0)] ex1 ?_ | exact re0 [])))
 refine Qiv hC (1000,21) (117,0) [((1000,0),20)] [] (QcL fr0) (by decide) ⟨rfl,rfl⟩ ⟨ex0,?_⟩
 refine QsO hC (1000,20) 118 [((1000,0),19)] [] (gpT gp) ⟨rfl,rfl⟩ ⟨by simp (decide:=true) (disch:=omega) only [go_sem,↓reduceIte,↓Qad];(try rfl),?_⟩
 (repeat' ((fail_if_success (first | refine Qas 3 ?_ | refine Qay 3 ?_));(first | refine sp_ ?_ | exact ex0 | refine Qab Tryz.call36 (cd) [(118,0)] ex1 ?_ | exact re0 [])))
 refine Qiv hC (1000,20) (118,0) [((1000,0),19)] [] (gpT gp0) (by decide) ⟨rfl,rfl⟩ ⟨ex0,?_⟩
 refine Qtf [(.o (1000,0),.num 32),(.c (1000,0) 0,.av (.val (vu c0.src))),(.c (1000,0) 1,.av (.val (vu c0.ab))),(.c (1000,0) 2,.av (.val (vs c0.nm))),(.c (1000,0) 3,.av (.val (vi c0.b1))),(.c (1000,0) 4,.av (.val (vi c0.b2))),(.c (1000,0) 5,.av (.val (vi c0.b3))),(.c (1000,0) 6,.av (.val (vi c0.g1))),(.c (1000,0) 7,.av (.val (vi c0.g2))),(.c (1000,0) 8,.av (.val (vi c0.g3))),(.c (1000,0) 9,.av (.val (vi c0.g4))),(.c (1000,0) 10,.av (.val (vi c0.lo))),(.c (1000,0) 11,.av (.val (vi c0.hi))),(.c (1000,0) 12,.av (.val (vi c0.ev))),(.c (1000,0) 13,.av (.val (vi c0.pt))),(.c (1000,0) 14,.av (.ptr (1000,15) 0 0)),(.r (1000,15),.tree (.box (tbT tb0))),(.c (1000,0) 15,.av (.ref (1000,16) 0)),(.r (1000,16),.tree (flM fl0)),(.c (1000,0) 16,.av (.ref (1000,17) 0)),(.r (1000,17),.tree (kpM kp0)),(.c (1000,0) 17,.av (.val (vb any0))),(.c (1000,0) 18,.av (.val (vi gr0))),(.c (1000,0) 19,.av (.ptr (1000,20) 0 0)),(.r (1000,20),.tree (.box (gpT gp0))),(.c (1000,0) 20,.av (.ptr (1000,21) 0 0)),(.r (1000,21),.tree (.box (QcL fr0))),(.c (1000,0) 21,.av (.val (vi dl0.lo))),(.c (1000,0) 22,.av (.val (vi dl0.hi))),(.c (1000,0) 23,.av (.val (vi dl0.now))),(.c (1000,0) 24,.av (.val (vi due0))),(.c (1000,0) 25,.av (.val (vb gone0))),(.c (1000,0) 26,.av (.val (vi ct0.md))),(.c (1000,0) 27,.av (.val (vi ct0.bd))),(.c (1000,0) 28,.av (.val (vi ct0.fo))),(.c (1000,0) 29,.av (.val (vi ct0.la))),(.c (1000,0) 30,.av (.val (vi ct0.tw))),(.c (1000,0) 31,.av (.val (vi ct0.rp))),(.s 0,.av (.ptr (1000,0) 0 0)),(.s 1,.av (.val (vi now))),(.s 4,.av (.val (.sc (.slice none 0 0)))),(.s 5,.av (.val (.sc (.slice none 0 0)))),(.s 6,.av (.val (.lst 2 (PL.map plE)))),(.s 8,.av (.val (.lst 1 (due.map fun z:Int=>[vi z])))),(.s 9,.av (.val (vb false)))] ex0 ?_
 cases due with
 | nil=>
  simp only [List.map_nil]
  repeat' first | refine sp_ ?_ | exact ex0 | exact re0 []
 | cons z due=>
  have hz0:¬(((z::due).length:Nat):Int)=0:=by simp only [List.length_cons];omega
  generalize z::due=due at *
  (repeat' ((fail_if_success (first | refine Qas 5 ?_ | refine Qay 5 ?_));(first | refine sp_ ?_ | exact ex0 | exact re0 [])))
  refine Qlr ?_
  refine Qsg hC Tryz.checked.mixed (by kernel_rfl) ?_
  refine sp_ ?_
  refine Qnt Tryz.call37 cb [(1000,0)] [.g (1000,0),.o (1000,0),.c (1000,0) 0,.c (1000,0) 2] (by simp (decide:=true) only [go_sem,↓reduceIte,↓Qad]) (by simp (decide:=true) only [go_sem,↓reduceIte,↓Qad]) ?_
  simp (decide:=true) only [go_sem,↓reduceIte,↓Qad]
  refine Qab Tryz.call38 crp [] (by simp (decide:=true) only [go_sem,↓reduceIte,↓Qad]) ?_
  simp (decide:=true) only [go_sem,↓reduceIte,↓Qad]
  refine Qab Tryz.call39 cnn [] (by simp (decide:=true) only [go_sem,↓reduceIte,↓Qad]) ?_
  simp (decide:=true) only [go_sem,↓reduceIte,↓Qad]
  (repeat' ((fail_if_success (first | refine Qas 7 ?_ | refine Qay 7 ?_));(first | refine sp_ ?_ | exact ex0 | exact re0 [])))
  refine Qij 11 (11,1) 116 3 ?_
  simp (decide:=true) only [go_sem,↓reduceIte,↓Qad]
  (repeat' ((fail_if_success (first | refine Qas 10 ?_ | refine Qay 10 ?_));(first | refine sp_ ?_ | exact ex0 | exact re0 [])))
  refine Qlr ?_
  refine Qsf hC (by kernel_rfl) ?_
  simp (decide:=true) only [go_sem,↓reduceIte,↓Qad]
  refine Qab Tryz.call43 ca [(1000,0)] (by simp (decide:=true) only [go_sem,↓reduceIte,↓Qad]) ?_
  simp (decide:=true) only [go_sem,↓reduceIte,↓Qad]
  refine Qab Tryz.call42 cc1 [] (by simp (decide:=true) only [go_sem,↓reduceIte,↓Qad]) ?_
  simp (decide:=true) only [go_sem,↓reduceIte,↓Qad]
  refine Qee Tryz.call41 ck1 (by simp (decide:=true) only [go_sem,↓reduceIte,↓Qad]) ?_
  simp (decide:=true) only [go_sem,↓reduceIte,↓Qad]
  refine Qil (α:=Unit) (fun _=>[(.o (1000,0),.num 32),(.c (1000,0) 0,.av (.val (vu c0.src))),(.c (1000,0) 1,.av (.val (vu c0.ab))),(.c (1000,0) 2,.av (.val (vs c0.nm))),(.c (1000,0) 3,.av (.val (vi c0.b1))),(.c (1000,0) 4,.av (.val (vi c0.b2))),(.c (1000,0) 5,.av (.val (vi c0.b3))),(.c (1000,0) 6,.av (.val (vi c0.g1))),(.c (1000,0) 7,.av (.val (vi c0.g2))),(.c (1000,0) 8,.av (.val (vi c0.g3))),(.c (1000,0) 9,.av (.val (vi c0.g4))),(.c (1000,0) 10,.av (.val (vi c0.lo))),(.c (1000,0) 11,.av (.val (vi c0.hi))),(.c (1000,0) 12,.av (.val (vi c0.ev))),(.c (1000,0) 13,.av (.val (vi c0.pt))),(.c (1000,0) 14,.av (.ptr (1000,15) 0 0)),(.r (1000,15),.tree (.box (tbT tb0))),(.c (1000,0) 15,.av (.ref (1000,16) 0)),(.r (1000,16),.tree (flM fl0)),(.c (1000,0) 16,.av (.ref (1000,17) 0)),(.r (1000,17),.tree (kpM kp0)),(.c (1000,0) 17,.av (.val (vb any0))),(.c (1000,0) 18,.av (.val (vi gr0))),(.c (1000,0) 19,.av (.ptr (1000,20) 0 0)),(.r (1000,20),.tree (.box (gpT gp0))),(.c (1000,0) 20,.av (.ptr (1000,21) 0 0)),(.r (1000,21),.tree (.box (QcL fr0))),(.c (1000,0) 21,.av (.val (vi dl0.lo))),(.c (1000,0) 22,.av (.val (vi dl0.hi))),(.c (1000,0) 23,.av (.val (vi dl0.now))),(.c (1000,0) 24,.av (.val (vi due0))),(.c (1000,0) 25,.av (.val (vb gone0))),(.c (1000,0) 26,.av (.val (vi ct0.md))),(.c (1000,0) 27,.av (.val (vi ct0.bd))),(.c (1000,0) 28,.av (.val (vi ct0.fo))),(.c (1000,0) 29,.av (.val (vi ct0.la))),(.c (1000,0) 30,.av (.val (vi ct0.tw))),(.c (1000,0) 31,.av (.val (vi ct0.rp))),(.s 0,.av (.ptr (1000,0) 0 0)),(.s 6,.av (.val (.lst 2 (PL.map plE))))]) ?_ (fun _=>?_)
  ·by_cases hd1:d1=[]
   ·subst hd1
    (repeat' ((fail_if_success (first | refine Qas 12 ?_ | refine Qay 12 ?_));(first | refine sp_ ?_ | exact ex0 | exact re0 [])))
    refine Qsf hC (by kernel_rfl) ?_
    simp (decide:=true) only [go_sem,↓reduceIte,↓Qad]
    refine Qab Tryz.call42 cc2 [] (by simp (decide:=true) only [go_sem,↓reduceIte,↓Qad]) ?_
    simp (decide:=true) only [go_sem,↓reduceIte,↓Qad]
    refine Qee Tryz.call41 ck2 (by simp (decide:=true) only [go_sem,↓reduceIte,↓Qad]) ?_
    simp (decide:=true) only [go_sem,↓reduceIte,↓Qad]
    refine Qby () ?_
    simp (decide:=true) only [go_sem,↓reduceIte,↓Qad]
   ·have hb:(d1 == [])=false:=by simpa using hd1
    (repeat' ((fail_if_success (first | refine Qas 12 ?_ | refine Qay 12 ?_));(first | refine sp_ ?_ | exact ex0 | exact re0 [])))
    (try simp only [hb])
    (repeat' ((fail_if_success (first | refine Qas 13 ?_ | refine Qay 13 ?_));(first | refine sp_ ?_ | exact ex0 | exact re0 [])))
    refine Qby () ?_
    simp (decide:=true) only [go_sem,↓reduceIte,↓Qad]
  (repeat' ((fail_if_success (first | refine Qas 14 ?_ | refine Qay 14 ?_));(first | refine sp_ ?_ | exact ex0 | exact re0 [])))
  refine QsO hC (1000,15) 117 [((1000,0),14)] [] (tbT tb0) ⟨rfl,rfl⟩ ⟨by simp (decide:=true) only [go_sem,↓reduceIte,↓Qad];(try rfl),?_⟩
  (repeat' ((fail_if_success (refine Qat 15 ?_));(first | refine sp_ ?_ | exact ex0 | refine Qab Tryz.call44 (ctu) [(117,0)] ex1 ?_ | exact re0 [])))
  refine Qiv hC (1000,15) (117,0) [((1000,0),14)] [] (tbT tb0) (by decide) ⟨rfl,rfl⟩ ⟨by simp (decide:=true) only [go_sem,↓reduceIte,↓Qad];(try rfl),?_⟩
  simp (decide:=true) only [go_sem,↓reduceIte,↓Qad]
  refine QaD (α:=Unit) (fun _=>[(.o (1000,0),.num 32),(.c (1000,0) 0,.av (.val (vu c0.src))),(.c (1000,0) 1,.av (.val (vu c0.ab))),(.c (1000,0) 2,.av (.val (vs c0.nm))),(.c (1000,0) 3,.av (.val (vi c0.b1))),(.c (1000,0) 4,.av (.val (vi c0.b2))),(.c (1000,0) 5,.av (.val (vi c0.b3))),(.c (1000,0) 6,.av (.val (vi c0.g1))),(.c (1000,0) 7,.av (.val (vi c0.g2))),(.c (1000,0) 8,.av (.val (vi c0.g3))),(.c (1000,0) 9,.av (.val (vi c0.g4))),(.c (1000,0) 10,.av (.val (vi c0.lo))),(.c (1000,0) 11,.av (.val (vi c0.hi))),(.c (1000,0) 12,.av (.val (vi c0.ev))),(.c (1000,0) 13,.av (.val (vi c0.pt))),(.c (1000,0) 14,.av (.ptr (1000,15) 0 0)),(.r (1000,15),.tree (.box (tbT tb0))),(.c (1000,0) 15,.av (.ref (1000,16) 0)),(.r (1000,16),.tree (flM fl0)),(.c (1000,0) 16,.av (.ref (1000,17) 0)),(.r (1000,17),.tree (kpM kp0)),(.c (1000,0) 17,.av (.val (vb any0))),(.c (1000,0) 18,.av (.val (vi gr0))),(.c (1000,0) 19,.av (.ptr (1000,20) 0 0)),(.r (1000,20),.tree (.box (gpT gp0))),(.c (1000,0) 20,.av (.ptr (1000,21) 0 0)),(.r (1000,21),.tree (.box (QcL fr0))),(.c (1000,0) 21,.av (.val (vi dl0.lo))),(.c (1000,0) 22,.av (.val (vi dl0.hi))),(.c (1000,0) 23,.av (.val (vi dl0.now))),(.c (1000,0) 24,.av (.val (vi due0))),(.c (1000,0) 25,.av (.val (vb gone0))),(.c (1000,0) 26,.av (.val (vi ct0.md))),(.c (1000,0) 27,.av (.val (vi ct0.bd))),(.c (1000,0) 28,.av (.val (vi ct0.fo))),(.c (1000,0) 29,.av (.val (vi ct0.la))),(.c (1000,0) 30,.av (.val (vi ct0.tw))),(.c (1000,0) 31,.av (.val (vi ct0.rp))),(.s 6,.av (.val (.lst 2 (PL.map plE)))),(.s 13,.av (.val (.sc (.slice none 0 0)))),(.s 112,.av (.val (vi 0))),(.s 113,.av (.val (vi 0)))]) (fun _=>0) () ?_ (fun _=>?_)
  ·simp (decide:=true) only [go_sem,↓reduceIte,↓Qad]
   (try rfl)
  repeat' first | refine sp_ ?_ | exact ex0 | exact re0 []
end Go.Proofs.YthfocmakkeonoaaGreatDoor
