/- Package receiver (layer 27): what it is made of; its beginning; a packet's number; walked. -/
import Derived.Test.YthfocmakkeonoaaGreatDoorSl0z
import Derived.Test.YthfocmakkeonoaaGreatDoorSplBz
import Derived.Test.YthfocmakkeonoaaGreatDoorSplBz
import Derived.Test.YthfocmakkeonoaaGreatDoorSplBz
import Derived.Test.YthfocmakkeonoaaGreatDoorRtp4z
import Derived.Test.YthfocmakkeonoaaGreatDoorRtp4z
import Derived.Test.YthfocmakkeonoaaGreatDoorMedia2z
set_option linter.unusedVariables false
set_option linter.unusedSimpArgs false
set_option maxRecDepth 100000
set_option maxHeartbeats 16000000
namespace Go.Proofs.YthfocmakkeonoaaGreatDoor
open Go.RowKit
def flT (f:Fl):List T:=[.av (vh f.s.mx),.av (vi f.s.cy),.av (vi f.s.bs),.av (vi f.s.bd),.av (vi f.s.pr),.av (vi f.s.rc),.av (vi f.j.sc),.av (vi f.j.tr),.av (vb f.j.has),.av (vi f.te),.av (vi f.tc),.av (vi f.by')]
def gpT (g:Gp):List T:=[.av (vi g.m),.av (vi g.t),.av (vi g.f),.av (vi g.a),.rw 173 4 (g.l.map Qht),.av (vb g.any),.av (vi g.gr),.av (vi g.gv)]
def QcL (b:Bu):List T:=[.av (vi b.cf),.av (vi b.cp),.av (vi b.cb),.av (vi b.l.length),.av (vi (Qb1 b.l)),.av (vi (bts b.l)),QDE b.l,.av (vi b.hz),.av (vi b.pl),.av (vi b.dr),.av (vi b.ev)]
def tbT (t:Tb):List T:=[.av (vi t.most),.av (vi t.ver),.rw 268 3 (t.l.map Qu6)]
attribute [go_sem] flT gpT QcL tbT
abbrev rcL (c:RC):List V:=[vu c.src,vu c.ab,vs c.nm,vi c.b1,vi c.b2,vi c.b3,vi c.g1,vi c.g2,vi c.g3,vi c.g4,vi c.lo,vi c.hi,vi c.ev,vi c.pt]
def rxG (x:Rx) (a b c d e:CA):List CA:=[.val (vu x.c.src),.val (vu x.c.ab),.val (vs x.c.nm),.val (vi x.c.b1),.val (vi x.c.b2),.val (vi x.c.b3),.val (vi x.c.g1),.val (vi x.c.g2),.val (vi x.c.g3),.val (vi x.c.g4),.val (vi x.c.lo),.val (vi x.c.hi),.val (vi x.c.ev),.val (vi x.c.pt),a,b,c,.val (vb x.any),.val (vi x.gr),d,e,
 .val (vi x.dl.lo),.val (vi x.dl.hi),.val (vi x.dl.now),.val (vi x.due),.val (vb x.gone),.val (vi x.ct.md),.val (vi x.ct.bd),.val (vi x.ct.fo),.val (vi x.ct.la),.val (vi x.ct.tw),.val (vi x.ct.rp)]
def flM (l:List Fl):T:=.mp (l.map fun f=>(.int .i64 f.id,.box (flT f)))
def kpM (l:List (Int × Int × Int)):T:=.mp (l.map fun k=>(.int .i64 k.1,.av (.agg [vu k.2.1,vi k.2.2])))
def rxO (x:Rx):List CA:=rxG x (.hd (.box (tbT x.tb))) (.hd (flM x.fl)) (.hd (kpM x.kp)) (.hd (.box (gpT x.gp))) (.hd (.box (QcL x.fr)))
def rxN (x:Rx) (u v:Value):List CA:=rxG x (.hd (.box (tbT x.tb))) (.val (.sc u)) (.hd (kpM x.kp)) (.val (.sc v)) (.hd (.box (QcL x.fr)))
def rxF (x:Rx) (b:CA):List CA:=rxG x (.hd (.box (tbT x.tb))) b (.hd (kpM x.kp)) (.hd (.box (gpT x.gp))) (.hd (.box (QcL x.fr)))
attribute [go_sem] rxG rxO rxN rxF flM kpM
def QAk (s:List UInt8):List UInt8:=if s=[] then [114] else s.take 255
def QAl (c:RC):RC:={ c with nm:=QAk c.nm,ev:=max 1 (min c.ev 1048576) }
def Qen (c:RC):Rx:=⟨QAl c,⟨max 1 (min c.pt 15),0,[]⟩,[],[],false,0,QA8 c.g1 c.g2 c.g3 c.g4,Qbb c.b1 c.b2 c.b3,Qb3 ⟨c.lo,c.hi,c.lo⟩,max 1 (min c.ev 1048576),false,⟨0,0,0,0,0,0⟩⟩
theorem Qug (c:RC) (hn:c.nm.length≤maxLen):Qan Tryz.prog 5 [.ca (.val (.agg (rcL c)))] [] (.ptr 0 0) [rxO (Qen c)]:=by
 have c1:=QE9 c.pt
 have c2:=QCI c.g1 c.g2 c.g3 c.g4
 have c3:=QAa c.b1 c.b2 c.b3
 have c4:=QxY c.lo c.hi
 unfold rxO Qen QAl QAk
 unfold maxLen at hn
 obtain ⟨src,ab,nm,b1,b2,b3,g1,g2,g3,g4,lo,hi,ev,pt⟩:=c
 dsimp only at *
 generalize QA8 g1 g2 g3 g4=g at *
 generalize Qbb b1 b2 b3=b at *
 generalize Qb3 ⟨lo,hi,lo⟩=d at *
 obtain ⟨lo',hi',now'⟩:=d
 (try dsimp only at *)
 by_cases hnm:nm=[]
 ·subst hnm
  rw [if_pos rfl]
  refine Qaa Tryz.func5 rfl Tryz.ntmps5 Tryz.results5 ⟨by decide,by simp⟩ fun C hC=>?_
  (repeat' ((fail_if_success (first | refine Qas 5 ?_ | refine Qay 5 ?_));(first | refine sp_ ?_ | exact ex0 | exact re0 [])))
  repeat' first | refine sp_ ?_ | exact ex0 | refine Qab Tryz.call13 (c1) [] ex1 ?_ | refine Qab Tryz.call14 (c2) [] ex1 ?_ | refine Qab Tryz.call15 (c3) [] ex1 ?_ | refine Qab Tryz.call16 (c4) [] ex1 ?_ | exact re0 []
  refine QsV (by simp (decide:=true) (disch:=omega) only [go_sem,↓reduceIte,↓Qad];exact ⟨rfl,rfl,rfl⟩) ex0 ?_
  refine QsW (by simp (decide:=true) (disch:=omega) only [go_sem,↓reduceIte,↓Qad];exact ⟨rfl,rfl,rfl⟩) ex0 ?_
  (repeat' ((fail_if_success (refine Qbf ?_));(first | refine sp_ ?_ | exact ex0 | exact re0 [])))
  refine Qiv hC (40,15) (23,0) [((40,0),14)] [] (tbT ⟨max 1 (min pt 15),0,[]⟩) (by decide) ⟨rfl,rfl⟩ ⟨ex0,?_⟩
  refine Qiv hC (40,20) (28,0) [((40,0),19)] [] (gpT g) (by decide) ⟨rfl,rfl⟩ ⟨ex0,?_⟩
  refine Qiv hC (40,21) (31,0) [((40,0),20)] [] (QcL b) (by decide) ⟨rfl,rfl⟩ ⟨ex0,?_⟩
  repeat' first | refine sp_ ?_ | exact ex0 | exact re0 [(40,0)]
 ·rw [if_neg hnm]
  have hb:(nm.take 255 == [])=false:=by
   have:nm.take 255≠[]:=fun h=>hnm (by
    have:=congrArg List.length h
    rw [List.length_take] at this
    simp at this
    exact this)
   simpa using this
  have hm:(min (nm.length:Int) 255).toNat=min nm.length 255:=by omega
  have hT:nm.take (min nm.length 255)=nm.take 255:=by rw [Nat.min_comm,←List.take_take,List.take_length]
  refine Qaa Tryz.func5 rfl Tryz.ntmps5 Tryz.results5 ⟨by decide,by simp⟩ fun C hC=>?_
  (repeat' ((fail_if_success (first | refine Qas 5 ?_ | refine Qay 5 ?_));(first | refine sp_ ?_ | exact ex0 | exact re0 [])))
  (try simp only [hm,hT,hb])
  (repeat' ((fail_if_success (first | refine Qas 5 ?_ | refine Qay 5 ?_));(first | refine sp_ ?_ | exact ex0 | exact re0 [])))
  repeat' first | refine sp_ ?_ | exact ex0 | refine Qab Tryz.call13 (c1) [] ex1 ?_ | refine Qab Tryz.call14 (c2) [] ex1 ?_ | refine Qab Tryz.call15 (c3) [] ex1 ?_ | refine Qab Tryz.call16 (c4) [] ex1 ?_ | exact re0 []
  refine QsV (by simp (decide:=true) (disch:=omega) only [go_sem,↓reduceIte,↓Qad];exact ⟨rfl,rfl,rfl⟩) ex0 ?_
  refine QsW (by simp (decide:=true) (disch:=omega) only [go_sem,↓reduceIte,↓Qad];exact ⟨rfl,rfl,rfl⟩) ex0 ?_
  (repeat' ((fail_if_success (refine Qbf ?_));(first | refine sp_ ?_ | exact ex0 | exact re0 [])))
  refine Qiv hC (40,15) (23,0) [((40,0),14)] [] (tbT ⟨max 1 (min pt 15),0,[]⟩) (by decide) ⟨rfl,rfl⟩ ⟨ex0,?_⟩
  refine Qiv hC (40,20) (28,0) [((40,0),19)] [] (gpT g) (by decide) ⟨rfl,rfl⟩ ⟨ex0,?_⟩
  refine Qiv hC (40,21) (31,0) [((40,0),20)] [] (QcL b) (by decide) ⟨rfl,rfl⟩ ⟨ex0,?_⟩
  repeat' first | refine sp_ ?_ | exact ex0 | exact re0 [(40,0)]
theorem QqB (x:Rx) (q:Int) (hq:0≤q∧q≤65535) (u v:Value):Qan Tryz.prog 28 [.ptr 0 0,.ca (.val (vh q))] [rxN x u v] (.ca (.val (vi (Qhn x q)))) [rxN { x with any:=true,gr:=grR x q } u v]:=by
 have c1:=Qzx x.gr q
 unfold grR Qhn
 obtain ⟨c,tb,fl,kp,any,gr,gp,fr,dl,due,gone,ct⟩:=x
 dsimp only at c1 ⊢
 generalize QdI gr q=n at *
 cases any with
 | false=>
  simp only [Bool.false_eq_true,if_false,true_or,if_true]
  refine Qaa Tryz.func28 rfl Tryz.ntmps28 Tryz.results28 ⟨by decide,by simp⟩ fun C hC=>?_
  repeat' first | refine sp_ ?_ | exact ex0 | exact re0 []
 | true=>
  simp only [if_true,Bool.true_eq_false,false_or]
  by_cases h:gr<n
  ·rw [if_pos h]
   refine Qaa Tryz.func28 rfl Tryz.ntmps28 Tryz.results28 ⟨by decide,by simp⟩ fun C hC=>?_
   repeat' first | refine sp_ ?_ | exact ex0 | refine Qab Tryz.call72 (c1) [] ex1 ?_ | exact re0 []
  ·rw [if_neg h]
   refine Qaa Tryz.func28 rfl Tryz.ntmps28 Tryz.results28 ⟨by decide,by simp⟩ fun C hC=>?_
   repeat' first | refine sp_ ?_ | exact ex0 | refine Qab Tryz.call72 (c1) [] ex1 ?_ | exact re0 []
end Go.Proofs.YthfocmakkeonoaaGreatDoor
