/- The statement ReceiverTwice, plain law: what the rounds keep. -/
import Derived.Test.YthfocmakkeonoaaGreatDoorNack2z
import Derived.Test.YthfocmakkeonoaaGreatDoorNotes2z
import Derived.Test.YthfocmakkeonoaaGreatDoorRcv7z
import Derived.Test.YthfocmakkeonoaaGreatDoorRcv4z
import Derived.Test.YthfocmakkeonoaaGreatDoorRPz
import Derived.Test.YthfocmakkeonoaaGreatDoorMedia2z
import Derived.Test.YthfocmakkeonoaaGreatDoorRLz
import Derived.Deep.Slices
import Derived.Deep.Fields
set_option linter.unusedVariables false
set_option linter.unusedSimpArgs false
set_option maxRecDepth 100000
set_option maxHeartbeats 16000000
namespace Go.Proofs.YthfocmakkeonoaaGreatDoor
open Go.RowKit
theorem QxE (d:Dl) (j:Int):0≤(Qp2 d j).now∧(Qp2 d j).now≤1048576:=by
 have h1:=QeB d
 have h2:=Qix j
 unfold Qp2
 dsimp only
 generalize Qb3 d=f at *
 split
 ·dsimp only;omega
 ·split
  ·dsimp only;omega
  ·omega
theorem QuZ (d:Dl) (j:Int):0≤(QjG d j).now∧(QjG d j).now≤1048576:=by
 have h1:=QeB d
 have h2:=Qix j
 unfold QjG
 dsimp only
 omega
structure TwS (c:RC) (x:Rx):Prop where
 c:x.c=QAl c
 tb:x.tb.l=[]
 due:x.due=1048576
 d0:0≤x.dl.now
 d1:x.dl.now≤1048576
theorem TwS.sim {c:RC} {x y:Rx} (h:TwS c x) (k:SimR x y):TwS c y:=⟨k.c.trans h.c,by rw [k.tb];exact h.tb,k.due.trans h.due,by rw [k.dl];exact h.d0,by rw [k.dl];exact h.d1⟩
theorem Qyr (lo hi:Int):TwS (Qa1 lo hi) (Qen (Qa1 lo hi)):=by
 have:=QeB ⟨lo,hi,lo⟩
 exact ⟨rfl,rfl,by unfold Qen Qa1;dsimp only;omega,by unfold Qen Qa1;dsimp only;omega,by unfold Qen Qa1;dsimp only;omega⟩
theorem Qgl (lo hi:Int):(QAl (Qa1 lo hi)).Ok:=⟨by unfold QAl Qa1;dsimp only;omega,by unfold QAl Qa1;dsimp only;omega,by unfold QAl Qa1 QAk;dsimp only;simp⟩
theorem QAU {c:RC} {x:Rx} (h:TwS c x) (m:M6) (now len:Int):TwS c (QbH x m now len):=by
 obtain ⟨_,⟨a5,a6,a7,_⟩,_⟩:=QhD x m now len
 have hd:0≤(QbH x m now len).dl.now∧(QbH x m now len).dl.now≤1048576:=by
  unfold QbH
  dsimp only
  generalize Qhj x.fr m.time.toNat m.idx m.cnt m.data now=r
  split
  ·exact QxE _ _
  ·split
   ·exact QuZ _ _
   ·split
    ·exact ⟨h.d0,h.d1⟩
    ·exact ⟨h.d0,h.d1⟩
 exact ⟨a5.trans h.c,by rw [a6];exact h.tb,a7.trans h.due,hd.1,hd.2⟩
theorem Qpi {c:RC} {x:Rx} (h:TwS c x) (path now:Int) (s:List UInt8):TwS c (QaY x path now s).1:=by
 unfold QaY
 dsimp only
 split
 ·exact ⟨h.c,h.tb,h.due,h.d0,h.d1⟩
 ·split
  ·exact ⟨h.c,h.tb,h.due,h.d0,h.d1⟩
  ·split
   ·exact ⟨h.c,h.tb,h.due,h.d0,h.d1⟩
   ·exact QAU h _ _ _
theorem Qu0 {c:RC} {x:Rx} (h:TwS c x) (now:Int):TwS c (QcW x now).1:=⟨h.c,h.tb,h.due,h.d0,h.d1⟩
structure TwJ (i:Nat) (x y:Rx):Prop where
 sim:SimR x y
 sx:TwS (Qa1 3 40) x
 ox:x.Ok (2 * i)
 oy:y.Ok (2 * i)
 room:Roomy x.fr i
 g0:-40000 * ((i:Int)+1)≤x.gr
 g1:x.gr≤70000 * ((i:Int)+1)
theorem QFn:TwJ 0 (Qen (Qa1 3 40)) (Qen (Qa1 3 40)):=
 ⟨SimR.refl _,Qyr 3 40,Qny _,Qny _,⟨rfl,by unfold Qen Qa1 Qbb;dsimp only;omega,by unfold Qen Qa1 Qbb;dsimp only;omega,by unfold Qen Qa1 Qbb;dsimp only;omega,by simp [Qen,Qbb],by simp [Qen,Qbb,Qb1],by simp [Qen,Qbb,bts]⟩,by unfold Qen;dsimp only;omega,by unfold Qen;dsimp only;omega⟩
theorem Roomy.mono {b:Bu} {i j:Nat} (h:Roomy b i) (hj:i≤j):Roomy b j:=by
 obtain ⟨r1,r2,r3,r4,r5,r6,r7⟩:=h
 exact ⟨r1,r2,r3,r4,by omega,by omega,by omega⟩
theorem QxF {i:Nat} {x y:Rx} (h:TwJ i x y) (hi:i<25) {s:List UInt8} (hm:(Qa4 s).2=0→(Qa4 s).1.Ok∧(Qa4 s).1.data.length≤1500) (hs:s.length≤1000) (b:Bool) :
  TwJ (i+1) (QaY x 1 i s).1 (if b=true then (QaY (QaY y 1 i s).1 1 i s).1 else (QaY y 1 i s).1)∧(QaY y 1 i s).2=(QaY x 1 i s).2:=by
 obtain ⟨h1,h2,h3,h4,h5,h6,h7⟩:=h
 obtain ⟨s1,s2⟩:=QjO h1 1 i s
 have hn:-1099511627776≤(i:Int)∧(i:Int)≤1099511627776:=by omega
 have hag:=Qmg (x:=x) h3.gp h3.fr h5 (by omega) (by omega) hm 1 (now:=(i:Int)) (by omega)
 have o1:=Qeo h3 (by omega) 1 hm (by omega) hn
 have o2:=Qeo h4 (by omega) 1 hm (by omega) hn
 have o3:=Qeo o2 (by omega) 1 hm (by omega) hn
 have e1:2 * (i:Int)+1≤2 * ((i+1:Nat):Int):=by omega
 have e2:2 * (i:Int)+1+1≤2 * ((i+1:Nat):Int):=by omega
 refine ⟨⟨?_,Qpi h2 _ _ _,o1.mono e1,?_,?_,?_,?_⟩,s2⟩
 ·cases b with
  | false=>exact s1
  | true=>exact hag.trans (QjO s1 1 i s).1
 ·cases b with
  | false=>exact o2.mono e1
  | true=>exact o3.mono e2
 all_goals
  unfold QaY
  dsimp only
  generalize hp:Qa4 s=r at *
  by_cases c1:r.2=0
  ·obtain ⟨m1,m2⟩:=hm c1
   rw [if_neg (fun q:r.2≠0=>q c1)]
   by_cases c2:r.1.src=x.c.ab
   ·rw [if_neg (fun q:r.1.src≠x.c.ab=>q c2)]
    by_cases c3:r.1.path=1
    ·rw [if_neg (fun q:r.1.path≠1=>q c3)]
     obtain ⟨⟨a1,a2,a3,a4⟩,_⟩:=QhD x r.1 (i:Int) s.length
     have ht:=m1.time
     have hq:=m1.seq
     have hput:=(Qmf h3.fr h5 (by omega) (t:=r.1.time.toNat) (i:=r.1.idx) (c:=r.1.cnt) (now:=(i:Int)) (s:=r.1.data) (by omega) m2 hn.1 hn.2).1
     have hgr:-40000 * (((i+1:Nat):Int)+1)≤grR x r.1.seq∧grR x r.1.seq≤70000 * (((i+1:Nat):Int)+1):=by
      have hx:=QjS x.gr r.1.seq (by omega)
      unfold grR Qhn
      by_cases ha:x.any=true
      ·rw [if_pos ha]
       split <;> omega
      ·rw [if_neg ha]
       split <;> omega
     first
      | (dsimp only;rw [a4];exact hput)
      | (dsimp only;rw [a2];exact hgr.1)
      | (dsimp only;rw [a2];exact hgr.2)
    ·rw [if_pos c3]
     first | exact h5.mono (by omega) | (dsimp only;omega)
   ·rw [if_pos c2]
    first | exact h5.mono (by omega) | (dsimp only;omega)
  ·rw [if_pos c1]
   first | exact h5.mono (by omega) | (dsimp only;omega)
end Go.Proofs.YthfocmakkeonoaaGreatDoor
namespace Go.Proofs.YthfocmakkeonoaaGreatDoor
open Go.RowKit
theorem Qgm (x:Rx) {K:Int} (h:x.Ok K) (hK:0≤K∧K≤500000) (path now:Int) (s:List UInt8) (hm:(Qa4 s).2=0→(Qa4 s).1.Ok∧(Qa4 s).1.data.length≤1500) (hs:s.length≤1099511627776) (hn:-1099511627776≤now∧now≤1099511627776) :
  Qan Tryz.prog 10 [.ptr 0 0,.ca (.val (vi path)),.ca (.val (vi now)),.ca (.val (vs s))] [rxO x] (.ca (.val (vi (QaY x path now s).2))) [rxO (QaY x path now s).1]:=by
 have cp:=QiQ s hs
 unfold QaY
 dsimp only
 generalize hp:Qa4 s=r at *
 obtain ⟨m,e⟩:=r
 dsimp only at *
 have hb0:=h.b0
 have hb1:=h.b1
 have hc0:=h.c0
 have hc1:=h.c1
 by_cases h1:e=0
 ·subst h1
  obtain ⟨m1,m2⟩:=hm rfl
  rw [if_neg (fun q=>q rfl)]
  by_cases h2:m.src=x.c.ab
  ·rw [if_neg (fun q=>q h2)]
   by_cases h3:m.path=path
   ·rw [if_neg (fun q=>q h3)]
    exact Qw7 x h hK path now s m hp m1 m2 hs h2 h3 hn
   ·rw [if_pos h3]
    clear h hm m1 m2 hp
    obtain ⟨c,tb,fl,kp,any,gr,gp,fr,dl,due,gone,ct⟩:=x
    obtain ⟨src,seq,time,mpath,pseq,idx,cnt,data⟩:=m
    dsimp only at *
    subst h2
    refine Qaa Tryz.func10 rfl Tryz.ntmps10 Tryz.results10 ⟨by decide,by simp⟩ fun C hC=>?_
    repeat' first | refine sp_ ?_ | exact ex0 | refine Qab Tryz.call25 (cp) [] ex1 ?_ | exact re0 []
  ·rw [if_pos h2]
   clear h hm m1 m2 hp
   obtain ⟨c,tb,fl,kp,any,gr,gp,fr,dl,due,gone,ct⟩:=x
   obtain ⟨src,seq,time,mpath,pseq,idx,cnt,data⟩:=m
   dsimp only at *
   refine Qaa Tryz.func10 rfl Tryz.ntmps10 Tryz.results10 ⟨by decide,by simp⟩ fun C hC=>?_
   repeat' first | refine sp_ ?_ | exact ex0 | refine Qab Tryz.call25 (cp) [] ex1 ?_ | exact re0 []
 ·rw [if_pos h1]
  clear h hm hp
  obtain ⟨c,tb,fl,kp,any,gr,gp,fr,dl,due,gone,ct⟩:=x
  obtain ⟨src,seq,time,mpath,pseq,idx,cnt,data⟩:=m
  dsimp only at *
  refine Qaa Tryz.func10 rfl Tryz.ntmps10 Tryz.results10 ⟨by decide,by simp⟩ fun C hC=>?_
  repeat' first | refine sp_ ?_ | exact ex0 | refine Qab Tryz.call25 (cp) [] ex1 ?_ | exact re0 []
end Go.Proofs.YthfocmakkeonoaaGreatDoor
namespace Go.Proofs.YthfocmakkeonoaaGreatDoor
open Go.RowKit
section
variable {P:Program} {ops:Array Oper} {C:Ctx} {E:Env} {σ:St} {a:Act} {w:World} {md:Bool} {K:St→List FP→Prop} {acc:List FP} {rest:List Oper}
theorem QDm {j:Nat} {g:Bool} {d:Tmp} {t:TypeId} {x:Operand} {f:Nat} {ty:TypeId} {pos:String} {af:Array Edge} (ft:TypeId) (off:Nat) (T:TI) (xs:List V) (y:V) (hf:fieldAt P t f=some (ft,off)) (hT:Qao P ft=some T)
  (hd:((ops[j]?).bind (·.dst)).isSome=true∧σ (.s (QbG ops j))=.av (.val (.sc (.bool g)))) (hx:ev σ x=.val (.agg xs)) (hy:Qwi T off xs=some y)
  (k:Qb7 P ops C md K rest (put σ (.s d) (.av (.val y))) ((.s (QbG ops j)::rdl x,[.s d])::acc)):Run P ops C md K (⟨some d,.field t x f,ty,pos,af,some (j,g)⟩::rest) σ acc:=
 QaQ (Qc5 hd.1 hd.2 (QxP hf hT hx hy _ _ _ rfl trivial ops ty pos af)) (QaJ k)
end
end Go.Proofs.YthfocmakkeonoaaGreatDoor
namespace Go.Proofs.YthfocmakkeonoaaGreatDoor
open Go.RowKit
theorem QnM (a1 b1:Int) (a2 b2:List UInt8) (w:World):(binOp .eql 56 (.agg [.int .u32 a1,str a2].toArray) (.agg [.int .u32 b1,str b2].toArray)).run Tryz.prog w=.ok (.bool (decide (a1=b1∧a2=b2))) w:=by
 by_cases h1:a1=b1
 ·by_cases h2:a2=b2
  ·subst h1 h2;simp [go_sem]
  ·have e:(a2 == b2)=false:=by simpa using h2
   simp [go_sem,h1,h2,e]
 ·simp [go_sem,h1]
theorem QnN (a1 b1:Int) (a2 b2:List UInt8) (w:World):(binOp .neq 56 (.agg [.int .u32 a1,str a2].toArray) (.agg [.int .u32 b1,str b2].toArray)).run Tryz.prog w=.ok (.bool (!decide (a1=b1∧a2=b2))) w:=by
 by_cases h1:a1=b1
 ·by_cases h2:a2=b2
  ·subst h1 h2;simp [go_sem]
  ·have e:(a2 == b2)=false:=by simpa using h2
   simp [go_sem,h1,h2,e]
 ·simp [go_sem,h1]
def m27:M6:=⟨1,0,5,1,0,0,1,[104,105]⟩
def QBc:Rx:=QbH (Qen (Qa1 3 9)) m27 0 30
def Qys:Rx:=(QcW QBc 2).1
def QDL:Rx:=(QcW Qys 3).1
theorem QDn:(QcW QBc 2).2=[]:=by decide +kernel
theorem QDo:(QcW Qys 3).2=[(5,[104,105])]:=by decide +kernel
theorem QDp:QDL.ct.md=1:=by decide +kernel
theorem QkW:QoG m27=true:=by decide
theorem Qpj:m27.Ok:=⟨by decide,by decide,by decide,by decide⟩
theorem QDq:QaY (Qen (Qa1 3 9)) 1 0 (Qcb m27)=(QBc,0):=by
 unfold QaY
 rw [Qfl m27 Qpj QkW,QiY m27 QkW]
 rfl
theorem QnO:Qan Tryz.prog 4 [] [] (.ca (.val (vb true))) []:=by
 have cp:=QiZ 3 9
 have co:=Qmq (Qa1 3 9) (by decide) (by decide)
 have cn:=Qug (Qa1 3 9) (by decide)
 have hpl:=QiY m27 QkW
 have hl:(Qcb m27).length=30:=hpl
 have cpk:=QgQ m27 Qpj (by decide)
 have ho0:=Qny (Qa1 3 9)
 have hpp:=Qfl m27 Qpj QkW
 have hmm:(Qa4 (Qcb m27)).2=0→(Qa4 (Qcb m27)).1.Ok∧(Qa4 (Qcb m27)).1.data.length≤1500:=fun _=>by rw [hpp];exact ⟨Qpj,by decide⟩
 have cm:=Qgm (Qen (Qa1 3 9)) ho0 (by omega) 1 0 (Qcb m27) hmm (by omega) (by omega)
 have ho1:=Qeo ho0 (by omega) 1 (now:=0) hmm (by omega) (by omega)
 have hs1:=Qpi (Qyr 3 9) 1 0 (Qcb m27)
 rw [QDq] at cm ho1 hs1
 dsimp only at cm ho1 hs1
 have cs1:=Qgk QBc ho1 (by omega) (by rw [hs1.c];exact Qgl _ _) hs1.tb ⟨hs1.d0,hs1.d1⟩ 2 (by omega) (by rw [hs1.due];omega)
 have ho2:=QkL ho1 (by omega) 2
 have hs2:=Qu0 hs1 2
 change Qys.Ok _ at ho2
 change TwS _ Qys at hs2
 have cs2:=Qgk Qys ho2 (by omega) (by rw [hs2.c];exact Qgl _ _) hs2.tb ⟨hs2.d0,hs2.d1⟩ 3 (by omega) (by rw [hs2.due];omega)
 rw [QDn] at cs1
 rw [QDo] at cs2
 have hc3:=QDp
 rw [show (QcW QBc 2).1=Qys from rfl] at cs1
 rw [show (QcW Qys 3).1=QDL from rfl] at cs2
 have cc:=QqQ QDL
 rw [hc3] at cc
 simp only [List.map_nil,List.map_cons] at cs1 cs2
 rw [show m6L m27=[vu 1,vh 0,vu 5,vi 1,vh 0,vi 0,vi 1,vs [104,105]] from rfl] at cpk
 rw [show rcL (Qa1 3 9)=[vu 2,vu 1,vs [121,111,117],vi 1000,vi 60000,vi 33554432,vi 1000,vi 5,vi 1,vi 5,vi 3,vi 9,vi 1048576,vi 15] from rfl] at co cn
 rw [show QDK (Qa1 3 9)=[vi 2,vi 1,vs [121,111,117],vi 1000,vi 60000,vi 33554432,vi 1000,vi 5,vi 1,vi 5,vi 3,vi 9,vi 1048576,vi 15] from rfl] at cp co
 have hcm:=QnM 5 5 [104,105] [104,105]
 generalize Qcb m27=pk at *
 generalize Qen (Qa1 3 9)=x0 at *
 generalize QBc=xa at *
 generalize Qys=xb at *
 generalize QDL=xc at *
 clear ho0 ho1 ho2 hs1 hs2 hmm hpp hpl hc3
 refine Qaa Tryz.func4 rfl Tryz.ntmps4 Tryz.results4 ⟨by decide,by simp⟩ fun C hC=>?_
 (repeat' ((fail_if_success (first | refine Qas 8 ?_ | refine Qay 8 ?_));(first | refine sp_ ?_ | exact ex0 | refine Qab Tryz.call7 (cp) [] ex1 ?_ | refine Qab Tryz.call6 (co) [] ex1 ?_ | refine Qab Tryz.call5 (cn) [] ex1 ?_ | refine QxO (by first | exact .inl rfl | exact .inr rfl) (by simp (decide:=true) (disch:=omega) only [go_sem,↓reduceIte,↓Qad];first | done | assumption | omega) ?_ | refine Qab Tryz.call9 (cpk) [] ex1 ?_ | refine Qab Tryz.call10 (cm) [(10,0)] ex1 ?_ | refine Qab Tryz.call11 (cs1) [(10,0)] ex1 ?_ | refine Qab Tryz.call11 (cs2) [(10,0)] ex1 ?_ | exact re0 [])))
 repeat' first | refine sp_ ?_ | exact ex0 | exact re0 []
 simp only [and_self,decide_true] at hcm
 refine Qkm _ _ _ (.inl rfl) ex0 ex0 ex0 (by kernel_rfl) hcm ?_
 repeat' first | refine sp_ ?_ | exact ex0 | refine Qee Tryz.call12 (cc) ex1 ?_ | exact re0 []
 refine QDm 3 0 _ [vi 1,vi xc.ct.bd,vi xc.ct.fo,vi xc.ct.la,vi xc.ct.tw,vi xc.ct.rp] (vi 1) (by kernel_rfl) ti3 ex0 ex0 rfl ?_
 repeat' first | refine sp_ ?_ | exact ex0 | exact re0 []
end Go.Proofs.YthfocmakkeonoaaGreatDoor
namespace Go.Proofs.YthfocmakkeonoaaGreatDoor
open Go.RowKit
section
variable {H:Type} {enc:TypeId × Value→H} {w:World} {base:Nat} {spare:Nat→Bool} {held:Bool} {v:Value} {d:DataW H} {p:List MemPlace} {r:Reach} {b0:Nat}
theorem Qpk {P:Program} {n:Nat} {t:TypeId} {x:V} (ht:P.underlying t=some (.int .u16)) (h:QbO P n t x):∃ m,x=.sc (.int .u16 m)∧0≤m∧m<65536:=by
 obtain ⟨m,e,h1,h2⟩:=Qkn ht h
 exact ⟨m,e,h1,Int.lt_of_le_of_lt h2 (by decide:IntKind.u16.max<65536)⟩
end
end Go.Proofs.YthfocmakkeonoaaGreatDoor
namespace Go.Proofs.YthfocmakkeonoaaGreatDoor
open Go.RowKit Go.ChangeShapes Go.WideShapes Go.Deep
section
variable {H:Type} {enc:TypeId × Value→H} {w:World} {base:Nat} {spare:Nat→Bool} {held:Bool} {v:Value} {d:Go.DataW H} {p:List MemPlace} {r:Reach} {b0:Nat}
def QAV (m:M6):List V:=m6L m
attribute [go_sem] QAV
theorem QFo {n:Nat} {xs:List V} (hx:RowV (QbO Tryz.prog n) [27,40,27,3,40,3,3,9] xs):∃ x:M6,xs=QAV x∧(x.Ok∧x.data.length≤maxLen):=by
 obtain ⟨x1,_,rfl,h1,hx⟩:=QbJ hx
 obtain ⟨x2,_,rfl,h2,hx⟩:=QbJ hx
 obtain ⟨x3,_,rfl,h3,hx⟩:=QbJ hx
 obtain ⟨x4,_,rfl,h4,hx⟩:=QbJ hx
 obtain ⟨x5,_,rfl,h5,hx⟩:=QbJ hx
 obtain ⟨x6,_,rfl,h6,hx⟩:=QbJ hx
 obtain ⟨x7,_,rfl,h7,hx⟩:=QbJ hx
 obtain ⟨x8,_,rfl,h8,hx⟩:=QbJ hx
 obtain rfl:=Qn8 hx
 obtain ⟨a1,rfl,g1⟩:=Qoa Tryz.underlying27 h1
 obtain ⟨a2,rfl,g2⟩:=Qpk Tryz.underlying40 h2
 obtain ⟨a3,rfl,g3⟩:=Qoa Tryz.underlying27 h3
 obtain ⟨a4,rfl,_⟩:=Qko Tryz.underlying3 h4
 obtain ⟨a5,rfl,g5⟩:=Qpk Tryz.underlying40 h5
 obtain ⟨a6,rfl,_⟩:=Qko Tryz.underlying3 h6
 obtain ⟨a7,rfl,_⟩:=Qko Tryz.underlying3 h7
 obtain ⟨a8,rfl,g8⟩:=Qwb Tryz.underlying9 h8
 exact ⟨⟨a1,a2,a3,a4,a5,a6,a7,a8⟩,rfl,⟨g1,g2,g3,g5⟩,g8⟩
theorem QAW (hv:Value.okWide Tryz.prog w r b0 22 v) (h:Go.DataW.Trod enc Tryz.prog w base spare held 22 v d p):∃ xs:List M6,Rd (cellsOf w) (.lst 8 (xs.map QAV)) v∧(∀ x∈xs,x.Ok∧x.data.length≤maxLen)∧xs.length≤maxLen:=by
 obtain ⟨n,x,hx,hr⟩:=QlE (by rw [Tryz.underlying22];intro fs h;cases h) (by rw [Tryz.underlying22];intro n e h;cases h) (by kernel_rfl) hv h
 obtain ⟨es,n',rfl,hl,hes⟩:=Qjx (sz:=8) (ls:=[27,40,27,3,40,3,3,9]) Tryz.underlying22 (by kernel_rfl) (by kernel_rfl) hx
 obtain ⟨xs,rfl,hxs⟩:=QmU (f:=QAV) (Q:=fun x=>x.Ok∧x.data.length≤maxLen) fun r hr=>QFo (hes r hr)
 exact ⟨xs,hr,hxs,by simpa using hl⟩
theorem QAX (hv:Value.okWide Tryz.prog w r b0 23 v) (h:Go.DataW.Trod enc Tryz.prog w base spare held 23 v d p):∃ xs:List Bool,Rd (cellsOf w) (.lst 1 (xs.map fun z:Bool=>[vb z])) v∧xs.length≤maxLen:=by
 obtain ⟨n,x,hx,hr⟩:=QlE (by rw [Tryz.underlying23];intro fs h;cases h) (by rw [Tryz.underlying23];intro n e h;cases h) (by kernel_rfl) hv h
 obtain ⟨es,n',rfl,hl,hes⟩:=Qjx (sz:=1) (ls:=[4]) Tryz.underlying23 (by kernel_rfl) (by kernel_rfl) hx
 obtain ⟨xs,rfl,hxs⟩:=QmU (f:=fun z:Bool=>[vb z]) (Q:=fun _=>True) fun r hr=>by
  obtain ⟨y,_,rfl,g1,g2⟩:=QbJ (hes r hr)
  obtain rfl:=Qn8 g2
  obtain ⟨m,rfl⟩:=QsD Tryz.underlying4 g1
  exact ⟨m,rfl,trivial⟩
 exact ⟨xs,hr,by simpa using hl⟩
end
end Go.Proofs.YthfocmakkeonoaaGreatDoor
