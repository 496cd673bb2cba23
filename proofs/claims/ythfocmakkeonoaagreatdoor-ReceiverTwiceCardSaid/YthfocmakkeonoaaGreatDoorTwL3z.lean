/- The statement ReceiverTwice, walked. -/
import Derived.Test.YthfocmakkeonoaaGreatDoorTwOz
import Derived.Test.YthfocmakkeonoaaGreatDoorTwOz
set_option linter.unusedVariables false
set_option linter.unusedSimpArgs false
set_option maxRecDepth 100000
set_option maxHeartbeats 16000000
namespace Go.Proofs.YthfocmakkeonoaaGreatDoor
open Go.RowKit
structure TwK (n:Nat) (x y:Rx):Prop where
 sim:SimR x y
 sx:TwS (Qa1 3 40) x
 ox:x.Ok (50+n)
 oy:y.Ok (50+n)
theorem QxG {n:Nat} {x y:Rx} (h:TwK n x y):TwK (n+1) (QcW x n).1 (QcW y n).1:=by
 obtain ⟨h1,h2,h3,h4⟩:=h
 have e:(50:Int)+(n:Int)+1≤50+((n+1:Nat):Int):=by omega
 exact ⟨(Qmh h1 n).1,Qu0 h2 n,(QkL h3 (by omega) n).mono e,(QkL h4 (by omega) n).mono e⟩
def Qi3 (m:M6):M6:={ m with src:=1,path:=1,data:=m.data.take 20 }
theorem Qu1 {m:M6} (h:m.Ok):(Qi3 m).Ok∧(Qi3 m).data.length≤20:=
 ⟨⟨by unfold Qi3;dsimp only;omega,h.seq,h.time,h.pseq⟩,by unfold Qi3;dsimp only;rw [List.length_take];omega⟩
theorem QAY (l:List M6) (tw:List Bool) (hl:l.length≤maxLen) (ht:tw.length≤maxLen) (hm:∀ m∈l,m.Ok∧m.data.length≤maxLen) :
  Qan Tryz.prog 3 [.ca (.val (.lst 8 (l.map QAV))),.ca (.val (.lst 1 (tw.map fun z:Bool=>[vb z])))] [] (.ca (.val (vb true))) []:=by
 unfold maxLen at hl ht
 have ca:=QnO
 have cp:=QiZ 3 40
 have co:=Qmq (Qa1 3 40) (by decide) (by decide)
 have cn:=Qug (Qa1 3 40) (by decide)
 rw [show rcL (Qa1 3 40)=[vu 2,vu 1,vs [121,111,117],vi 1000,vi 60000,vi 33554432,vi 1000,vi 5,vi 1,vi 5,vi 3,vi 40,vi 1048576,vi 15] from rfl] at co cn
 rw [show QDK (Qa1 3 40)=[vi 2,vi 1,vs [121,111,117],vi 1000,vi 60000,vi 33554432,vi 1000,vi 5,vi 1,vi 5,vi 3,vi 40,vi 1048576,vi 15] from rfl] at cp co
 have j0:=QFn
 generalize Qen (Qa1 3 40)=x0 at *
 refine Qaa Tryz.func3 rfl Tryz.ntmps3 Tryz.results3 ⟨by decide,by simp⟩ fun C hC=>?_
 (repeat' ((fail_if_success (first | refine Qas 6 ?_ | refine Qay 6 ?_));(first | refine sp_ ?_ | exact ex0 | refine Qab Tryz.call4 (ca) [] ex1 ?_ | refine Qab Tryz.call7 (cp) [] ex1 ?_ | refine Qab Tryz.call6 (co) [] ex1 ?_ | refine Qab Tryz.call5 (cn) [] ex1 ?_ | refine QxO (by first | exact .inl rfl | exact .inr rfl) (by simp (decide:=true) (disch:=omega) only [go_sem,↓reduceIte,↓Qad];first | done | assumption | omega) ?_ | exact re0 [])))
 clear ca cp co cn
 (repeat' ((fail_if_success (refine Qat 7 ?_));(first | refine sp_ ?_ | exact ex0 | exact re0 [])))
 refine Qzq (α:={x:Rx × Rx // TwK 25 x.1 x.2}) (fun x=>[(.o (22,0),.num 32),(.c (22,0) 0,.av (.val (vu x.1.1.c.src))),(.c (22,0) 1,.av (.val (vu x.1.1.c.ab))),(.c (22,0) 2,.av (.val (vs x.1.1.c.nm))),(.c (22,0) 3,.av (.val (vi x.1.1.c.b1))),(.c (22,0) 4,.av (.val (vi x.1.1.c.b2))),(.c (22,0) 5,.av (.val (vi x.1.1.c.b3))),(.c (22,0) 6,.av (.val (vi x.1.1.c.g1))),(.c (22,0) 7,.av (.val (vi x.1.1.c.g2))),(.c (22,0) 8,.av (.val (vi x.1.1.c.g3))),(.c (22,0) 9,.av (.val (vi x.1.1.c.g4))),(.c (22,0) 10,.av (.val (vi x.1.1.c.lo))),(.c (22,0) 11,.av (.val (vi x.1.1.c.hi))),(.c (22,0) 12,.av (.val (vi x.1.1.c.ev))),(.c (22,0) 13,.av (.val (vi x.1.1.c.pt))),(.c (22,0) 14,.av (.ptr (22,15) 0 0)),(.r (22,15),.tree (.box (tbT x.1.1.tb))),(.c (22,0) 15,.av (.ref (22,16) 0)),(.r (22,16),.tree (flM x.1.1.fl)),(.c (22,0) 16,.av (.ref (22,17) 0)),(.r (22,17),.tree (kpM x.1.1.kp)),(.c (22,0) 17,.av (.val (vb x.1.1.any))),(.c (22,0) 18,.av (.val (vi x.1.1.gr))),(.c (22,0) 19,.av (.ptr (22,20) 0 0)),(.r (22,20),.tree (.box (gpT x.1.1.gp))),(.c (22,0) 20,.av (.ptr (22,21) 0 0)),(.r (22,21),.tree (.box (QcL x.1.1.fr))),(.c (22,0) 21,.av (.val (vi x.1.1.dl.lo))),(.c (22,0) 22,.av (.val (vi x.1.1.dl.hi))),(.c (22,0) 23,.av (.val (vi x.1.1.dl.now))),(.c (22,0) 24,.av (.val (vi x.1.1.due))),(.c (22,0) 25,.av (.val (vb x.1.1.gone))),(.c (22,0) 26,.av (.val (vi x.1.1.ct.md))),(.c (22,0) 27,.av (.val (vi x.1.1.ct.bd))),(.c (22,0) 28,.av (.val (vi x.1.1.ct.fo))),(.c (22,0) 29,.av (.val (vi x.1.1.ct.la))),(.c (22,0) 30,.av (.val (vi x.1.1.ct.tw))),(.c (22,0) 31,.av (.val (vi x.1.1.ct.rp))),(.o (25,0),.num 32),(.c (25,0) 0,.av (.val (vu x.1.2.c.src))),(.c (25,0) 1,.av (.val (vu x.1.2.c.ab))),(.c (25,0) 2,.av (.val (vs x.1.2.c.nm))),(.c (25,0) 3,.av (.val (vi x.1.2.c.b1))),(.c (25,0) 4,.av (.val (vi x.1.2.c.b2))),(.c (25,0) 5,.av (.val (vi x.1.2.c.b3))),(.c (25,0) 6,.av (.val (vi x.1.2.c.g1))),(.c (25,0) 7,.av (.val (vi x.1.2.c.g2))),(.c (25,0) 8,.av (.val (vi x.1.2.c.g3))),(.c (25,0) 9,.av (.val (vi x.1.2.c.g4))),(.c (25,0) 10,.av (.val (vi x.1.2.c.lo))),(.c (25,0) 11,.av (.val (vi x.1.2.c.hi))),(.c (25,0) 12,.av (.val (vi x.1.2.c.ev))),(.c (25,0) 13,.av (.val (vi x.1.2.c.pt))),(.c (25,0) 14,.av (.ptr (25,15) 0 0)),(.r (25,15),.tree (.box (tbT x.1.2.tb))),(.c (25,0) 15,.av (.ref (25,16) 0)),(.r (25,16),.tree (flM x.1.2.fl)),(.c (25,0) 16,.av (.ref (25,17) 0)),(.r (25,17),.tree (kpM x.1.2.kp)),(.c (25,0) 17,.av (.val (vb x.1.2.any))),(.c (25,0) 18,.av (.val (vi x.1.2.gr))),(.c (25,0) 19,.av (.ptr (25,20) 0 0)),(.r (25,20),.tree (.box (gpT x.1.2.gp))),(.c (25,0) 20,.av (.ptr (25,21) 0 0)),(.r (25,21),.tree (.box (QcL x.1.2.fr))),(.c (25,0) 21,.av (.val (vi x.1.2.dl.lo))),(.c (25,0) 22,.av (.val (vi x.1.2.dl.hi))),(.c (25,0) 23,.av (.val (vi x.1.2.dl.now))),(.c (25,0) 24,.av (.val (vi x.1.2.due))),(.c (25,0) 25,.av (.val (vb x.1.2.gone))),(.c (25,0) 26,.av (.val (vi x.1.2.ct.md))),(.c (25,0) 27,.av (.val (vi x.1.2.ct.bd))),(.c (25,0) 28,.av (.val (vi x.1.2.ct.fo))),(.c (25,0) 29,.av (.val (vi x.1.2.ct.la))),(.c (25,0) 30,.av (.val (vi x.1.2.ct.tw))),(.c (25,0) 31,.av (.val (vi x.1.2.ct.rp))),(.s 5,.av (.ptr (22,0) 0 0)),(.s 6,.av (.ptr (25,0) 0 0))]) ?_ (fun x=>?_)
 ·refine QaD (α:={x:Nat × Rx × Rx // x.1≤l.length∧x.1≤25∧TwJ x.1 x.2.1 x.2.2}) (fun x=>[(.o (22,0),.num 32),(.c (22,0) 0,.av (.val (vu x.1.2.1.c.src))),(.c (22,0) 1,.av (.val (vu x.1.2.1.c.ab))),(.c (22,0) 2,.av (.val (vs x.1.2.1.c.nm))),(.c (22,0) 3,.av (.val (vi x.1.2.1.c.b1))),(.c (22,0) 4,.av (.val (vi x.1.2.1.c.b2))),(.c (22,0) 5,.av (.val (vi x.1.2.1.c.b3))),(.c (22,0) 6,.av (.val (vi x.1.2.1.c.g1))),(.c (22,0) 7,.av (.val (vi x.1.2.1.c.g2))),(.c (22,0) 8,.av (.val (vi x.1.2.1.c.g3))),(.c (22,0) 9,.av (.val (vi x.1.2.1.c.g4))),(.c (22,0) 10,.av (.val (vi x.1.2.1.c.lo))),(.c (22,0) 11,.av (.val (vi x.1.2.1.c.hi))),(.c (22,0) 12,.av (.val (vi x.1.2.1.c.ev))),(.c (22,0) 13,.av (.val (vi x.1.2.1.c.pt))),(.c (22,0) 14,.av (.ptr (22,15) 0 0)),(.r (22,15),.tree (.box (tbT x.1.2.1.tb))),(.c (22,0) 15,.av (.ref (22,16) 0)),(.r (22,16),.tree (flM x.1.2.1.fl)),(.c (22,0) 16,.av (.ref (22,17) 0)),(.r (22,17),.tree (kpM x.1.2.1.kp)),(.c (22,0) 17,.av (.val (vb x.1.2.1.any))),(.c (22,0) 18,.av (.val (vi x.1.2.1.gr))),(.c (22,0) 19,.av (.ptr (22,20) 0 0)),(.r (22,20),.tree (.box (gpT x.1.2.1.gp))),(.c (22,0) 20,.av (.ptr (22,21) 0 0)),(.r (22,21),.tree (.box (QcL x.1.2.1.fr))),(.c (22,0) 21,.av (.val (vi x.1.2.1.dl.lo))),(.c (22,0) 22,.av (.val (vi x.1.2.1.dl.hi))),(.c (22,0) 23,.av (.val (vi x.1.2.1.dl.now))),(.c (22,0) 24,.av (.val (vi x.1.2.1.due))),(.c (22,0) 25,.av (.val (vb x.1.2.1.gone))),(.c (22,0) 26,.av (.val (vi x.1.2.1.ct.md))),(.c (22,0) 27,.av (.val (vi x.1.2.1.ct.bd))),(.c (22,0) 28,.av (.val (vi x.1.2.1.ct.fo))),(.c (22,0) 29,.av (.val (vi x.1.2.1.ct.la))),(.c (22,0) 30,.av (.val (vi x.1.2.1.ct.tw))),(.c (22,0) 31,.av (.val (vi x.1.2.1.ct.rp))),(.o (25,0),.num 32),(.c (25,0) 0,.av (.val (vu x.1.2.2.c.src))),(.c (25,0) 1,.av (.val (vu x.1.2.2.c.ab))),(.c (25,0) 2,.av (.val (vs x.1.2.2.c.nm))),(.c (25,0) 3,.av (.val (vi x.1.2.2.c.b1))),(.c (25,0) 4,.av (.val (vi x.1.2.2.c.b2))),(.c (25,0) 5,.av (.val (vi x.1.2.2.c.b3))),(.c (25,0) 6,.av (.val (vi x.1.2.2.c.g1))),(.c (25,0) 7,.av (.val (vi x.1.2.2.c.g2))),(.c (25,0) 8,.av (.val (vi x.1.2.2.c.g3))),(.c (25,0) 9,.av (.val (vi x.1.2.2.c.g4))),(.c (25,0) 10,.av (.val (vi x.1.2.2.c.lo))),(.c (25,0) 11,.av (.val (vi x.1.2.2.c.hi))),(.c (25,0) 12,.av (.val (vi x.1.2.2.c.ev))),(.c (25,0) 13,.av (.val (vi x.1.2.2.c.pt))),(.c (25,0) 14,.av (.ptr (25,15) 0 0)),(.r (25,15),.tree (.box (tbT x.1.2.2.tb))),(.c (25,0) 15,.av (.ref (25,16) 0)),(.r (25,16),.tree (flM x.1.2.2.fl)),(.c (25,0) 16,.av (.ref (25,17) 0)),(.r (25,17),.tree (kpM x.1.2.2.kp)),(.c (25,0) 17,.av (.val (vb x.1.2.2.any))),(.c (25,0) 18,.av (.val (vi x.1.2.2.gr))),(.c (25,0) 19,.av (.ptr (25,20) 0 0)),(.r (25,20),.tree (.box (gpT x.1.2.2.gp))),(.c (25,0) 20,.av (.ptr (25,21) 0 0)),(.r (25,21),.tree (.box (QcL x.1.2.2.fr))),(.c (25,0) 21,.av (.val (vi x.1.2.2.dl.lo))),(.c (25,0) 22,.av (.val (vi x.1.2.2.dl.hi))),(.c (25,0) 23,.av (.val (vi x.1.2.2.dl.now))),(.c (25,0) 24,.av (.val (vi x.1.2.2.due))),(.c (25,0) 25,.av (.val (vb x.1.2.2.gone))),(.c (25,0) 26,.av (.val (vi x.1.2.2.ct.md))),(.c (25,0) 27,.av (.val (vi x.1.2.2.ct.bd))),(.c (25,0) 28,.av (.val (vi x.1.2.2.ct.fo))),(.c (25,0) 29,.av (.val (vi x.1.2.2.ct.la))),(.c (25,0) 30,.av (.val (vi x.1.2.2.ct.tw))),(.c (25,0) 31,.av (.val (vi x.1.2.2.ct.rp))),(.s 5,.av (.ptr (22,0) 0 0)),(.s 6,.av (.ptr (25,0) 0 0)),(.s 0,.av (.val (.lst 8 (l.map QAV)))),(.s 1,.av (.val (.lst 1 (tw.map fun z:Bool=>[vb z])))),(.s 7,.av (.val (vi x.1.1)))]) (fun x=>l.length-x.1.1) ⟨(0,x0,x0),Nat.zero_le _,Nat.zero_le _,j0⟩ ?_ (fun x=>?_)
  ·simp (decide:=true) (disch:=omega) only [go_sem,↓reduceIte,↓Qad]
   (try simp)
  clear j0
  obtain ⟨⟨i,x,y⟩,h1,h2,J⟩:=x
  dsimp only at h1 h2 J ⊢
  by_cases hlt:i<l.length∧i<25
  ·obtain ⟨hlt,hlt2⟩:=hlt
   have hltz:(i:Int)<l.length:=by omega
   have hmi:=hm l[i] (List.getElem_mem hlt)
   obtain ⟨hmo,hmd⟩:=Qu1 hmi.1
   have cc:=QFf l[i].data 20 (by omega) hmi.2
   rw [show ((20:Nat):Int)=20 from rfl] at cc
   have cpk:=QgQ (Qi3 l[i]) hmo (by unfold maxLen;omega)
   obtain ⟨hpm,hpl⟩:=QFg hmo hmd
   rw [show m6L (Qi3 l[i])=[vu 1,vh l[i].seq,vu l[i].time,vi 1,vh l[i].pseq,vi l[i].idx,vi l[i].cnt,vs (l[i].data.take 20)] from rfl] at cpk
   generalize Qcb (Qi3 l[i])=pk at *
   have jb0:=fun b=>QxF J hlt2 hpm hpl b
   have hj:=(jb0 false).2
   have jb:=fun b=>(jb0 b).1
   clear jb0
   have cm1:=Qgm x J.ox ⟨by omega,by omega⟩ 1 i pk hpm (by omega) (by omega)
   have cm2:=Qgm y J.oy ⟨by omega,by omega⟩ 1 i pk hpm (by omega) (by omega)
   have oy1:=Qeo J.oy (by omega) 1 (now:=(i:Int)) hpm (by omega) (by omega)
   have cm3:=Qgm (QaY y 1 i pk).1 oy1 ⟨by omega,by omega⟩ 1 i pk hpm (by omega) (by omega)
   rw [hj] at cm2
   clear hj oy1 hpm hmo hmd
   generalize (QaY (QaY y 1 i pk).1 1 i pk).2=e3 at *
   generalize (QaY (QaY y 1 i pk).1 1 i pk).1=y2 at *
   generalize (QaY y 1 i pk).1=y1 at *
   generalize (QaY x 1 i pk).1=x1 at *
   generalize (QaY x 1 i pk).2=e1 at *
   (repeat' ((fail_if_success (first | refine Qas 12 ?_ | refine Qay 12 ?_));(first | refine sp_ ?_ | exact ex0 | refine Qab Tryz.call8 (cc) [] ex1 ?_ | refine Qab Tryz.call9 (cpk) [] ex1 ?_ | exact re0 [])))
   (repeat' ((fail_if_success (first | refine Qas 15 ?_ | refine Qay 15 ?_));(first | refine sp_ ?_ | exact ex0 | refine Qab Tryz.call10 (cm1) [(22,0)] ex1 ?_ | refine Qab Tryz.call10 (cm2) [(25,0)] ex1 ?_ | exact re0 [])))
   by_cases htw:i<tw.length
   ·have htz:(i:Int)<tw.length:=by omega
    cases hb:tw[i] with
    | true=>
     (repeat' ((fail_if_success (first | refine Qas 16 ?_ | refine Qay 16 ?_));(first | refine sp_ ?_ | exact ex0 | exact re0 [])))
     simp only [hb]
     repeat' first | refine sp_ ?_ | exact ex0 | refine Qab Tryz.call10 (cm3) [(25,0)] ex1 ?_ | exact re0 []
     refine Qau (α:={x:Nat × Rx × Rx // x.1≤l.length∧x.1≤25∧TwJ x.1 x.2.1 x.2.2}) ⟨(i+1,x1,y2),hlt,hlt2,by simpa using jb true⟩ ⟨?_,by (try dsimp only);omega⟩
     (try dsimp only)
     exact ex0
    | false=>
     (repeat' ((fail_if_success (first | refine Qas 16 ?_ | refine Qay 16 ?_));(first | refine sp_ ?_ | exact ex0 | exact re0 [])))
     simp only [hb]
     repeat' first | refine sp_ ?_ | exact ex0 | exact re0 []
     refine Qau (α:={x:Nat × Rx × Rx // x.1≤l.length∧x.1≤25∧TwJ x.1 x.2.1 x.2.2}) ⟨(i+1,x1,y1),hlt,hlt2,by simpa using jb false⟩ ⟨?_,by (try dsimp only);omega⟩
     (try dsimp only)
     exact ex0
   ·have htz:¬(i:Int)<tw.length:=by omega
    repeat' first | refine sp_ ?_ | exact ex0 | exact re0 []
    refine Qau (α:={x:Nat × Rx × Rx // x.1≤l.length∧x.1≤25∧TwJ x.1 x.2.1 x.2.2}) ⟨(i+1,x1,y1),hlt,hlt2,by simpa using jb false⟩ ⟨?_,by (try dsimp only);omega⟩
    (try dsimp only)
    exact ex0
  ·have hk:TwK 25 x y:=⟨J.sim,J.sx,J.ox.mono (by omega),J.oy.mono (by omega)⟩
   rcases Nat.lt_or_ge i 25 with h | h
   ·have hge:(l.length:Int)≤i:=by omega
    repeat' first | refine sp_ ?_ | exact ex0 | exact re0 []
    refine Qby ⟨(x,y),hk⟩ ?_
    exact ex0
   ·have hge:(25:Int)≤i:=by omega
    by_cases hi:(i:Int)<l.length
    ·repeat' first | refine sp_ ?_ | exact ex0 | exact re0 []
     refine Qby ⟨(x,y),hk⟩ ?_
     exact ex0
    ·repeat' first | refine sp_ ?_ | exact ex0 | exact re0 []
     refine Qby ⟨(x,y),hk⟩ ?_
     exact ex0
 obtain ⟨⟨xs,ys⟩,hks⟩:=x
 dsimp only at hks ⊢
 (repeat' ((fail_if_success (refine Qat 18 ?_));(first | refine sp_ ?_ | exact ex0 | exact re0 [])))
 refine QaD (α:={x:Nat × Rx × Rx // 25≤x.1∧x.1≤90∧TwK x.1 x.2.1 x.2.2}) (fun x=>[(.o (22,0),.num 32),(.c (22,0) 0,.av (.val (vu x.1.2.1.c.src))),(.c (22,0) 1,.av (.val (vu x.1.2.1.c.ab))),(.c (22,0) 2,.av (.val (vs x.1.2.1.c.nm))),(.c (22,0) 3,.av (.val (vi x.1.2.1.c.b1))),(.c (22,0) 4,.av (.val (vi x.1.2.1.c.b2))),(.c (22,0) 5,.av (.val (vi x.1.2.1.c.b3))),(.c (22,0) 6,.av (.val (vi x.1.2.1.c.g1))),(.c (22,0) 7,.av (.val (vi x.1.2.1.c.g2))),(.c (22,0) 8,.av (.val (vi x.1.2.1.c.g3))),(.c (22,0) 9,.av (.val (vi x.1.2.1.c.g4))),(.c (22,0) 10,.av (.val (vi x.1.2.1.c.lo))),(.c (22,0) 11,.av (.val (vi x.1.2.1.c.hi))),(.c (22,0) 12,.av (.val (vi x.1.2.1.c.ev))),(.c (22,0) 13,.av (.val (vi x.1.2.1.c.pt))),(.c (22,0) 14,.av (.ptr (22,15) 0 0)),(.r (22,15),.tree (.box (tbT x.1.2.1.tb))),(.c (22,0) 15,.av (.ref (22,16) 0)),(.r (22,16),.tree (flM x.1.2.1.fl)),(.c (22,0) 16,.av (.ref (22,17) 0)),(.r (22,17),.tree (kpM x.1.2.1.kp)),(.c (22,0) 17,.av (.val (vb x.1.2.1.any))),(.c (22,0) 18,.av (.val (vi x.1.2.1.gr))),(.c (22,0) 19,.av (.ptr (22,20) 0 0)),(.r (22,20),.tree (.box (gpT x.1.2.1.gp))),(.c (22,0) 20,.av (.ptr (22,21) 0 0)),(.r (22,21),.tree (.box (QcL x.1.2.1.fr))),(.c (22,0) 21,.av (.val (vi x.1.2.1.dl.lo))),(.c (22,0) 22,.av (.val (vi x.1.2.1.dl.hi))),(.c (22,0) 23,.av (.val (vi x.1.2.1.dl.now))),(.c (22,0) 24,.av (.val (vi x.1.2.1.due))),(.c (22,0) 25,.av (.val (vb x.1.2.1.gone))),(.c (22,0) 26,.av (.val (vi x.1.2.1.ct.md))),(.c (22,0) 27,.av (.val (vi x.1.2.1.ct.bd))),(.c (22,0) 28,.av (.val (vi x.1.2.1.ct.fo))),(.c (22,0) 29,.av (.val (vi x.1.2.1.ct.la))),(.c (22,0) 30,.av (.val (vi x.1.2.1.ct.tw))),(.c (22,0) 31,.av (.val (vi x.1.2.1.ct.rp))),(.o (25,0),.num 32),(.c (25,0) 0,.av (.val (vu x.1.2.2.c.src))),(.c (25,0) 1,.av (.val (vu x.1.2.2.c.ab))),(.c (25,0) 2,.av (.val (vs x.1.2.2.c.nm))),(.c (25,0) 3,.av (.val (vi x.1.2.2.c.b1))),(.c (25,0) 4,.av (.val (vi x.1.2.2.c.b2))),(.c (25,0) 5,.av (.val (vi x.1.2.2.c.b3))),(.c (25,0) 6,.av (.val (vi x.1.2.2.c.g1))),(.c (25,0) 7,.av (.val (vi x.1.2.2.c.g2))),(.c (25,0) 8,.av (.val (vi x.1.2.2.c.g3))),(.c (25,0) 9,.av (.val (vi x.1.2.2.c.g4))),(.c (25,0) 10,.av (.val (vi x.1.2.2.c.lo))),(.c (25,0) 11,.av (.val (vi x.1.2.2.c.hi))),(.c (25,0) 12,.av (.val (vi x.1.2.2.c.ev))),(.c (25,0) 13,.av (.val (vi x.1.2.2.c.pt))),(.c (25,0) 14,.av (.ptr (25,15) 0 0)),(.r (25,15),.tree (.box (tbT x.1.2.2.tb))),(.c (25,0) 15,.av (.ref (25,16) 0)),(.r (25,16),.tree (flM x.1.2.2.fl)),(.c (25,0) 16,.av (.ref (25,17) 0)),(.r (25,17),.tree (kpM x.1.2.2.kp)),(.c (25,0) 17,.av (.val (vb x.1.2.2.any))),(.c (25,0) 18,.av (.val (vi x.1.2.2.gr))),(.c (25,0) 19,.av (.ptr (25,20) 0 0)),(.r (25,20),.tree (.box (gpT x.1.2.2.gp))),(.c (25,0) 20,.av (.ptr (25,21) 0 0)),(.r (25,21),.tree (.box (QcL x.1.2.2.fr))),(.c (25,0) 21,.av (.val (vi x.1.2.2.dl.lo))),(.c (25,0) 22,.av (.val (vi x.1.2.2.dl.hi))),(.c (25,0) 23,.av (.val (vi x.1.2.2.dl.now))),(.c (25,0) 24,.av (.val (vi x.1.2.2.due))),(.c (25,0) 25,.av (.val (vb x.1.2.2.gone))),(.c (25,0) 26,.av (.val (vi x.1.2.2.ct.md))),(.c (25,0) 27,.av (.val (vi x.1.2.2.ct.bd))),(.c (25,0) 28,.av (.val (vi x.1.2.2.ct.fo))),(.c (25,0) 29,.av (.val (vi x.1.2.2.ct.la))),(.c (25,0) 30,.av (.val (vi x.1.2.2.ct.tw))),(.c (25,0) 31,.av (.val (vi x.1.2.2.ct.rp))),(.s 5,.av (.ptr (22,0) 0 0)),(.s 6,.av (.ptr (25,0) 0 0)),(.s 12,.av (.val (vi x.1.1)))]) (fun x=>90-x.1.1) ⟨(25,xs,ys),Nat.le_refl _,by dsimp only;omega,hks⟩ ?_ (fun x=>?_)
 ·exact ex0
 obtain ⟨⟨now,x,y⟩,h1,h2,hk⟩:=x
 dsimp only at h1 h2 hk ⊢
 by_cases hlt:now<90
 ·have hltz:(now:Int)<90:=by omega
  have hs:=hk.sx
  have hs2:=hs.sim hk.sim
  have kn:=QxG hk
  have cs1:=Qgk x hk.ox ⟨by omega,by omega⟩ (by rw [hs.c];exact Qgl _ _) hs.tb ⟨hs.d0,hs.d1⟩ now (by omega) (by rw [hs.due];omega)
  have cs2:=Qgk y hk.oy ⟨by omega,by omega⟩ (by rw [hs2.c];exact Qgl _ _) hs2.tb ⟨hs2.d0,hs2.d1⟩ now (by omega) (by rw [hs2.due];omega)
  have hpl:=(Qmh hk.sim now).2
  rw [hpl] at cs2
  have hpn:(QcW x now).2.length≤1025:=(Qt9 hk.ox.fr now x.dl.now (Qb3 ⟨x.c.lo,x.c.hi,x.c.lo⟩).hi).2.1
  clear hpl hs hs2
  generalize (QcW x now).2=PL at *
  generalize (QcW x now).1=x1 at *
  generalize (QcW y now).1=y1 at *
  (repeat' ((fail_if_success (refine Qat 25 ?_));(first | refine sp_ ?_ | exact ex0 | refine Qab Tryz.call11 (cs1) [(22,0)] ex1 ?_ | refine Qab Tryz.call11 (cs2) [(25,0)] ex1 ?_ | exact re0 [])))
  clear cs1 cs2
  refine QaD (α:={j:Nat // j≤PL.length}) (fun j=>[(.o (22,0),.num 32),(.c (22,0) 0,.av (.val (vu x1.c.src))),(.c (22,0) 1,.av (.val (vu x1.c.ab))),(.c (22,0) 2,.av (.val (vs x1.c.nm))),(.c (22,0) 3,.av (.val (vi x1.c.b1))),(.c (22,0) 4,.av (.val (vi x1.c.b2))),(.c (22,0) 5,.av (.val (vi x1.c.b3))),(.c (22,0) 6,.av (.val (vi x1.c.g1))),(.c (22,0) 7,.av (.val (vi x1.c.g2))),(.c (22,0) 8,.av (.val (vi x1.c.g3))),(.c (22,0) 9,.av (.val (vi x1.c.g4))),(.c (22,0) 10,.av (.val (vi x1.c.lo))),(.c (22,0) 11,.av (.val (vi x1.c.hi))),(.c (22,0) 12,.av (.val (vi x1.c.ev))),(.c (22,0) 13,.av (.val (vi x1.c.pt))),(.c (22,0) 14,.av (.ptr (22,15) 0 0)),(.r (22,15),.tree (.box (tbT x1.tb))),(.c (22,0) 15,.av (.ref (22,16) 0)),(.r (22,16),.tree (flM x1.fl)),(.c (22,0) 16,.av (.ref (22,17) 0)),(.r (22,17),.tree (kpM x1.kp)),(.c (22,0) 17,.av (.val (vb x1.any))),(.c (22,0) 18,.av (.val (vi x1.gr))),(.c (22,0) 19,.av (.ptr (22,20) 0 0)),(.r (22,20),.tree (.box (gpT x1.gp))),(.c (22,0) 20,.av (.ptr (22,21) 0 0)),(.r (22,21),.tree (.box (QcL x1.fr))),(.c (22,0) 21,.av (.val (vi x1.dl.lo))),(.c (22,0) 22,.av (.val (vi x1.dl.hi))),(.c (22,0) 23,.av (.val (vi x1.dl.now))),(.c (22,0) 24,.av (.val (vi x1.due))),(.c (22,0) 25,.av (.val (vb x1.gone))),(.c (22,0) 26,.av (.val (vi x1.ct.md))),(.c (22,0) 27,.av (.val (vi x1.ct.bd))),(.c (22,0) 28,.av (.val (vi x1.ct.fo))),(.c (22,0) 29,.av (.val (vi x1.ct.la))),(.c (22,0) 30,.av (.val (vi x1.ct.tw))),(.c (22,0) 31,.av (.val (vi x1.ct.rp))),(.o (25,0),.num 32),(.c (25,0) 0,.av (.val (vu y1.c.src))),(.c (25,0) 1,.av (.val (vu y1.c.ab))),(.c (25,0) 2,.av (.val (vs y1.c.nm))),(.c (25,0) 3,.av (.val (vi y1.c.b1))),(.c (25,0) 4,.av (.val (vi y1.c.b2))),(.c (25,0) 5,.av (.val (vi y1.c.b3))),(.c (25,0) 6,.av (.val (vi y1.c.g1))),(.c (25,0) 7,.av (.val (vi y1.c.g2))),(.c (25,0) 8,.av (.val (vi y1.c.g3))),(.c (25,0) 9,.av (.val (vi y1.c.g4))),(.c (25,0) 10,.av (.val (vi y1.c.lo))),(.c (25,0) 11,.av (.val (vi y1.c.hi))),(.c (25,0) 12,.av (.val (vi y1.c.ev))),(.c (25,0) 13,.av (.val (vi y1.c.pt))),(.c (25,0) 14,.av (.ptr (25,15) 0 0)),(.r (25,15),.tree (.box (tbT y1.tb))),(.c (25,0) 15,.av (.ref (25,16) 0)),(.r (25,16),.tree (flM y1.fl)),(.c (25,0) 16,.av (.ref (25,17) 0)),(.r (25,17),.tree (kpM y1.kp)),(.c (25,0) 17,.av (.val (vb y1.any))),(.c (25,0) 18,.av (.val (vi y1.gr))),(.c (25,0) 19,.av (.ptr (25,20) 0 0)),(.r (25,20),.tree (.box (gpT y1.gp))),(.c (25,0) 20,.av (.ptr (25,21) 0 0)),(.r (25,21),.tree (.box (QcL y1.fr))),(.c (25,0) 21,.av (.val (vi y1.dl.lo))),(.c (25,0) 22,.av (.val (vi y1.dl.hi))),(.c (25,0) 23,.av (.val (vi y1.dl.now))),(.c (25,0) 24,.av (.val (vi y1.due))),(.c (25,0) 25,.av (.val (vb y1.gone))),(.c (25,0) 26,.av (.val (vi y1.ct.md))),(.c (25,0) 27,.av (.val (vi y1.ct.bd))),(.c (25,0) 28,.av (.val (vi y1.ct.fo))),(.c (25,0) 29,.av (.val (vi y1.ct.la))),(.c (25,0) 30,.av (.val (vi y1.ct.tw))),(.c (25,0) 31,.av (.val (vi y1.ct.rp))),(.s 5,.av (.ptr (22,0) 0 0)),(.s 6,.av (.ptr (25,0) 0 0)),(.s 12,.av (.val (vi now))),(.s 14,.av (.val (.lst 2 (PL.map plE)))),(.s 16,.av (.val (.lst 2 (PL.map plE)))),(.s 102,.av (.val (vi PL.length))),(.s 103,.av (.val (vi j.1)))]) (fun j=>PL.length-j.1) ⟨0,Nat.zero_le _⟩ ?_ (fun j=>?_)
  ·simp (decide:=true) (disch:=omega) only [go_sem,↓reduceIte,↓Qad]
   (try simp)
  obtain ⟨j,hj⟩:=j
  dsimp only at hj ⊢
  by_cases hjl:j<PL.length
  ·have hjz:(j:Int)<PL.length:=by omega
   have hcm:=QnN (PL[j].1:Int) (PL[j].1:Int) PL[j].2 PL[j].2
   simp only [and_self,decide_true,Bool.not_true] at hcm
   repeat' first | refine sp_ ?_ | exact ex0 | exact re0 []
   refine Qcn _ _ _ (.inr rfl) ex0 ex0 (by kernel_rfl) hcm ?_
   repeat' first | refine sp_ ?_ | exact ex0 | exact re0 []
   refine Qau (α:={j:Nat // j≤PL.length}) ⟨j+1,hjl⟩ ⟨?_,by (try dsimp only);omega⟩
   (try dsimp only)
   exact ex0
  ·obtain rfl:j=PL.length:=by omega
   repeat' first | refine sp_ ?_ | exact ex0 | exact re0 []
   refine Qau (α:={x:Nat × Rx × Rx // 25≤x.1∧x.1≤90∧TwK x.1 x.2.1 x.2.2}) ⟨(now+1,x1,y1),by dsimp only;omega,by dsimp only;omega,kn⟩ ⟨?_,by (try dsimp only);omega⟩
   (try dsimp only)
   exact ex0
 ·obtain rfl:now=90:=by omega
  repeat' first | refine sp_ ?_ | exact ex0 | exact re0 []
end Go.Proofs.YthfocmakkeonoaaGreatDoor
