/- Package receiver (layer 27): a packet of media comes; walked. -/
import Derived.Test.YthfocmakkeonoaaGreatDoorRcv3z
import Derived.Test.YthfocmakkeonoaaGreatDoorGapOz
set_option linter.unusedVariables false
set_option linter.unusedSimpArgs false
set_option maxRecDepth 100000
set_option maxHeartbeats 16000000
namespace Go.Proofs.YthfocmakkeonoaaGreatDoor
open Go.RowKit
structure Rx.Ok (x:Rx) (K:Int):Prop where
 fl:∀ f∈x.fl,f.Ok K
 ln:(x.fl.length:Int)≤K
 gp:x.gp.Ok K
 fr:x.fr.Ok (1025 * K)
 a0:0≤x.ct.md
 a1:x.ct.md≤K
 b0:0≤x.ct.bd
 b1:x.ct.bd≤K
 c0:0≤x.ct.fo
 c1:x.ct.fo≤K
 d0:0≤x.ct.la
 d1:x.ct.la≤K
 e0:0≤x.ct.tw
 e1:x.ct.tw≤K
 f0:0≤x.ct.rp
 f1:x.ct.rp≤K
theorem QoY {l l1:List Fl} {id n b:Int} {k:Nat} {f:Fl} (hl:l1=Qdi l id n) (hk:k=atR l id) (hf:l1[k]? = some f):QtD l id n b=l1.set k (flR f n b):=by
 subst hl hk
 unfold QtD
 rw [hf]
 rfl
theorem Qw6 {l:List Fl} {k:Nat} {g:Fl} (hk:k<l.length) (a b:Int):QoH (l.set k g) k a b=l.set k { g with j:=Qp4 g.j a b }:=by
 unfold QoH
 refine List.ext_getElem (by simp) fun i h1 h2=>?_
 rw [List.getElem_modify,List.getElem_set,List.getElem_set]
 by_cases e:k=i
 ·simp [e]
 ·simp [e]
theorem QC8 {l:List Fl} {k:Nat} (hk:k<l.length) (id:Int):(flE l k id)[k]? = some (Value.int .i64 id,T.av .any):=by
 unfold flE
 simp [hk]
theorem Qun {l:List Fl} {k:Nat} {id:Int} {g:Fl} (hg:g.id=id):(flE l k id).set k (Value.int .i64 id,T.box (flT g))=(l.set k g).map fun f=>(Value.int .i64 f.id,T.box (flT f)):=by
 unfold flE
 rw [List.set_set,List.map_set,hg]
theorem Qw7 (x:Rx) {K:Int} (h:x.Ok K) (hK:0≤K∧K≤500000) (path now:Int) (s:List UInt8) (m:M6) (hp:Qa4 s=(m,0)) (hm:m.Ok) (hd:m.data.length≤1500) (hs:s.length≤1099511627776) (hsrc:m.src=x.c.ab) (hpath:m.path=path) (hn:-1099511627776≤now∧now≤1099511627776) :
  Qan Tryz.prog 10 [.ptr 0 0,.ca (.val (vi path)),.ca (.val (vi now)),.ca (.val (vs s))] [rxO x] (.ca (.val (vi 0))) [rxO (QbH x m now s.length)]:=by
 have cp:=QiQ s hs
 rw [hp] at cp
 have ht:=hm.time
 have hseq:=hm.seq
 obtain ⟨l1,hl1⟩:∃ l1,l1=Qdi x.fl m.path m.pseq:=⟨_,rfl⟩
 obtain ⟨k,hk⟩:∃ k,k=atR x.fl m.path:=⟨_,rfl⟩
 obtain ⟨f1,hf1,hid⟩:=Qhy x.fl m.path m.pseq
 rw [←hl1,←hk] at hf1
 have hkl:=(List.getElem?_eq_some_iff.1 hf1).1
 have cc:=Qul x m ⟨hK.1,by omega⟩ h.fl hm s.length (by omega) ⟨h.a0,by have:=h.a1;omega⟩ l1 hl1 k hk f1 hf1 hid
 have hcn:=QoY (b:=(s.length:Int)) hl1 hk hf1
 obtain ⟨nn,hnn⟩:∃ nn,nn=Qhn x m.seq:=⟨_,rfl⟩
 obtain ⟨gg',hgg⟩:∃ gg',gg'=grR x m.seq:=⟨_,rfl⟩
 have cn:∀ u v,Qan Tryz.prog 28 [.ptr 0 0,.ca (.val (vh m.seq))] [rxN { x with ct:={ x.ct with md:=x.ct.md+1 } } u v] (.ca (.val (vi nn))) [rxN { x with ct:={ x.ct with md:=x.ct.md+1 },any:=true,gr:=gg' } u v]:=fun u v=>by
  rw [hnn,hgg]
  exact QqB { x with ct:={ x.ct with md:=x.ct.md+1 } } m.seq (by omega) u v
 have cg:=Qz3 x.gp h.gp (by omega) (Qhn x m.seq) now
 have cb:=QAg h.fr (by omega) m.time.toNat m.idx m.cnt m.data now (by omega) (by omega) hn.1 hn.2
 rw [show ((m.time.toNat:Nat):Int)=m.time by omega] at cb
 unfold QbH
 rw [hcn,←hk,←hnn,←hgg]
 rw [←hnn] at cg
 dsimp only
 generalize (QeO x.gp nn now).1=gp2 at *
 generalize hr:Qhj x.fr m.time.toNat m.idx m.cnt m.data now=r at *
 obtain ⟨b2,kd,ev⟩:=r
 dsimp only at *
 obtain ⟨c,tb,fl,kp,any,gr,gp,fr,dl,due,gone,ct⟩:=x
 obtain ⟨src,seq,time,mpath,pseq,idx,cnt,data⟩:=m
 dsimp only at *
 subst hsrc hpath
 refine Qaa Tryz.func10 rfl Tryz.ntmps10 Tryz.results10 ⟨by decide,by simp⟩ fun C hC=>?_
 (repeat' ((fail_if_success (first | refine Qas 12 ?_ | refine Qay 12 ?_));(first | refine sp_ ?_ | exact ex0 | refine Qab Tryz.call25 (cp) [] ex1 ?_ | refine Qab Tryz.call26 (cc) [(1000,0)] ex1 ?_ | exact re0 [])))
 refine QsO hC (1000,20) 21 [((1000,0),19)] [] (gpT gp) ⟨rfl,rfl⟩ ⟨by simp (decide:=true) (disch:=omega) only [go_sem,↓reduceIte,↓Qad];(try rfl),?_⟩
 refine QC2 hC (1000,0) 19 (21,0) [71,22] (by rfl) ex0 fun u=>?_
 refine QC4 hC (1000,0) 15 (1000,16) [23] (by rfl) ex0 fun v=>?_
 refine sx_ ?_
 refine Qlr ?_
 refine Qw3 hC Tryz.checked.mixed (by kernel_rfl) ?_
 refine Qzu (c:=True) (by simp (decide:=true) (disch:=omega) only [go_sem,↓reduceIte,↓Qad];exact ⟨rfl,rfl⟩) trivial ?_
 refine Qzu (by simp (decide:=true) (disch:=omega) only [go_sem,↓reduceIte,↓Qad];first | exact ⟨rfl,rfl⟩ | exact ⟨rfl,rfl,rfl⟩) ex0 ?_
 refine Qzu (by simp (decide:=true) (disch:=omega) only [go_sem,↓reduceIte,↓Qad];first | exact ⟨rfl,rfl⟩ | exact ⟨rfl,rfl,rfl⟩) ex0 ?_
 refine QFc (1000,0) 0 19 32 u (21,0) 1 _ QFs rfl ex0 ?_
 (repeat' ((fail_if_success (first | refine Qas 13 ?_ | refine Qay 13 ?_));(first | refine sp_ ?_ | exact ex0 | refine Qnt Tryz.call28 ((cn v u)) [(1000,0)] [.g (1000,0),.o (1000,0),.c (1000,0) 19] ex1 ex1 ?_ | refine Qab Tryz.call27 (cg) [(21,0)] ex1 ?_ | exact re0 [])))
 refine QC5 (1000,0) 15 23 (1000,16) v ⟨ex0,?_⟩
 refine QC3 (1000,0) 19 22 (21,0) u ⟨ex0,?_⟩
 refine Qiv hC (1000,20) (21,0) [((1000,0),19)] [] (gpT gp2) (by decide) ⟨rfl,rfl⟩ ⟨ex0,?_⟩
 refine QsO hC (1000,21) 22 [((1000,0),20)] [] (QcL fr) ⟨rfl,rfl⟩ ⟨by simp (decide:=true) (disch:=omega) only [go_sem,↓reduceIte,↓Qad];(try rfl),?_⟩
 (repeat' ((fail_if_success (first | refine Qas 14 ?_ | refine Qay 14 ?_));(first | refine sp_ ?_ | exact ex0 | refine Qab Tryz.call29 (cb) [(22,0)] ex1 ?_ | exact re0 [])))
 refine QB9 3 0 _ [vi kd,.lst 1 (ev.map fun t:Nat=>[vu t])] (vi kd) (by kernel_rfl) ti3 ex0 rfl ?_
 (repeat' ((fail_if_success (first | refine Qas 14 ?_ | refine Qay 14 ?_));(first | refine sp_ ?_ | exact ex0 | exact re0 [])))
 refine Qiv hC (1000,21) (22,0) [((1000,0),20)] [] (QcL b2) (by decide) ⟨rfl,rfl⟩ ⟨ex0,?_⟩
 have hfi:=QC8 hkl mpath
 have hgid:(flR f1 pseq s.length).id=mpath:=hid
 generalize flR f1 pseq s.length=g at *
 refine Qtf [(.o (1000,0),.num 32),(.c (1000,0) 0,.av (.val (vu c.src))),(.c (1000,0) 1,.av (.val (vu c.ab))),(.c (1000,0) 2,.av (.val (vs c.nm))),(.c (1000,0) 3,.av (.val (vi c.b1))),(.c (1000,0) 4,.av (.val (vi c.b2))),(.c (1000,0) 5,.av (.val (vi c.b3))),(.c (1000,0) 6,.av (.val (vi c.g1))),(.c (1000,0) 7,.av (.val (vi c.g2))),(.c (1000,0) 8,.av (.val (vi c.g3))),(.c (1000,0) 9,.av (.val (vi c.g4))),(.c (1000,0) 10,.av (.val (vi c.lo))),(.c (1000,0) 11,.av (.val (vi c.hi))),(.c (1000,0) 12,.av (.val (vi c.ev))),(.c (1000,0) 13,.av (.val (vi c.pt))),(.c (1000,0) 14,.av (.ptr (1000,15) 0 0)),(.r (1000,15),.tree (.box (tbT tb))),(.c (1000,0) 15,.av (.ref (1000,16) 0)),(.r (1000,16),.tree (.mp (flE l1 k mpath))),(.l (1000,16),.lent k (.ptr (67,0) 0 0)),(.c (1000,0) 16,.av (.ref (1000,17) 0)),(.r (1000,17),.tree (kpM kp)),(.c (1000,0) 17,.av (.val (vb true))),(.c (1000,0) 18,.av (.val (vi gg'))),(.c (1000,0) 19,.av (.ptr (1000,20) 0 0)),(.r (1000,20),.tree (.box (gpT gp2))),(.c (1000,0) 20,.av (.ptr (1000,21) 0 0)),(.r (1000,21),.tree (.box (QcL b2))),(.c (1000,0) 21,.av (.val (vi dl.lo))),(.c (1000,0) 22,.av (.val (vi dl.hi))),(.c (1000,0) 23,.av (.val (vi dl.now))),(.c (1000,0) 24,.av (.val (vi due))),(.c (1000,0) 25,.av (.val (vb gone))),(.c (1000,0) 26,.av (.val (vi (ct.md+1)))),(.c (1000,0) 27,.av (.val (vi ct.bd))),(.c (1000,0) 28,.av (.val (vi ct.fo))),(.c (1000,0) 29,.av (.val (vi ct.la))),(.c (1000,0) 30,.av (.val (vi ct.tw))),(.c (1000,0) 31,.av (.val (vi ct.rp))),(.o (67,0),.num 12),(.c (67,0) 0,.av (.val (vh g.s.mx))),(.c (67,0) 1,.av (.val (vi g.s.cy))),(.c (67,0) 2,.av (.val (vi g.s.bs))),(.c (67,0) 3,.av (.val (vi g.s.bd))),(.c (67,0) 4,.av (.val (vi g.s.pr))),(.c (67,0) 5,.av (.val (vi g.s.rc))),(.c (67,0) 6,.av (.val (vi g.j.sc))),(.c (67,0) 7,.av (.val (vi g.j.tr))),(.c (67,0) 8,.av (.val (vb g.j.has))),(.c (67,0) 9,.av (.val (vi g.te))),(.c (67,0) 10,.av (.val (vi g.tc))),(.c (67,0) 11,.av (.val (vi g.by'))),(.o (9,0),.num 8),(.c (9,0) 2,.av (.val (vu time))),(.s 0,.av (.ptr (1000,0) 0 0)),(.s 2,.av (.val (vi now))),(.s 8,.av (.val (vi 0))),(.s 9,.av (.ptr (9,0) 0 0)),(.s 11,.av (.ptr (67,0) 0 0)),(.s 90,.av (.val (vi kd)))] ex0 ?_
 by_cases h12:kd=1∨kd=2
 ·rw [if_pos h12]
  have cj:=Qz5 g.j time now
  have hjs:=Qw6 (g:=g) hkl time now
  rw [hjs]
  obtain ⟨g',hg'⟩:∃ g':Fl,g' = { g with j:=Qp4 g.j time now }:=⟨_,rfl⟩
  have hfs:=Qun (l:=l1) (k:=k) (id:=mpath) (g:=g') (by rw [hg'];exact hgid)
  rw [←hg']
  have hlen:(l1.set k g').length≤1000000:=by
   rw [List.length_set,hl1]
   have h1:=h.ln
   dsimp only at h1
   unfold Qdi
   split
   ·omega
   ·rw [List.length_append,List.length_singleton];omega
  have cu:=QqC ⟨c,tb,l1.set k g',kp,true,gg',gp2,b2,dl,due,gone,{ ct with md:=ct.md+1 }⟩ hlen
  generalize hmj:QwN (l1.set k g')=mj at *
  have cd:=QsT dl mj
  rcases h12 with rfl | rfl <;>
  ·(repeat' ((fail_if_success (first | refine Qas 17 ?_ | refine Qay 17 ?_));(first | refine sp_ ?_ | exact ex0 | refine Qab Tryz.call30 (cj) [] ex1 ?_ | exact re0 [])))
   refine Qoi (1000,16) (67,0) k (flE l1 k mpath) ((l1.set k g').map fun f=>(Value.int .i64 f.id,T.box (flT f))) (.int .i64 mpath) .any (flT g') hfi hfs ⟨by rw [hg'];simp (decide:=true) (disch:=omega) only [go_sem,↓reduceIte,↓Qad],?_⟩
   refine sx_ ?_
   repeat' first | refine sp_ ?_ | exact ex0 | refine Qnt Tryz.call32 (cu) [(1000,0)] [.g (1000,0),.o (1000,0),.c (1000,0) 21,.c (1000,0) 22,.c (1000,0) 23] ex1 ex1 ?_ | refine Qab Tryz.call31 (cd) [] ex1 ?_ | exact re0 []
 rw [if_neg h12]
 have hfs:=Qun (l:=l1) (k:=k) (id:=mpath) (g:=g) hgid
 have hn1:kd≠1:=fun e=>h12 (.inl e)
 have hn2:kd≠2:=fun e=>h12 (.inr e)
 by_cases h5:kd=5
 ·rw [if_pos h5]
  subst h5
  have cl:=Qzz dl 1
  have hla0:0≤ct.la:=h.d0
  have hla1:ct.la≤K:=h.d1
  (repeat' ((fail_if_success (refine Qbf ?_));(first | refine sp_ ?_ | exact ex0 | refine Qab Tryz.call33 (cl) [] ex1 ?_ | exact re0 [])))
  refine Qoi (1000,16) (67,0) k (flE l1 k mpath) ((l1.set k g).map fun f=>(Value.int .i64 f.id,T.box (flT f))) (.int .i64 mpath) .any (flT g) hfi hfs ⟨ex0,?_⟩
  refine sx_ ?_
  repeat' first | refine sp_ ?_ | exact ex0 | exact re0 []
 rw [if_neg h5]
 by_cases h3:kd=3
 ·rw [if_pos h3]
  subst h3
  have htw0:0≤ct.tw:=h.e0
  have htw1:ct.tw≤K:=h.e1
  (repeat' ((fail_if_success (refine Qbf ?_));(first | refine sp_ ?_ | exact ex0 | exact re0 [])))
  refine Qoi (1000,16) (67,0) k (flE l1 k mpath) ((l1.set k g).map fun f=>(Value.int .i64 f.id,T.box (flT f))) (.int .i64 mpath) .any (flT g) hfi hfs ⟨ex0,?_⟩
  refine sx_ ?_
  repeat' first | refine sp_ ?_ | exact ex0 | exact re0 []
 rw [if_neg h3]
 (repeat' ((fail_if_success (refine Qbf ?_));(first | refine sp_ ?_ | exact ex0 | exact re0 [])))
 refine Qoi (1000,16) (67,0) k (flE l1 k mpath) ((l1.set k g).map fun f=>(Value.int .i64 f.id,T.box (flT f))) (.int .i64 mpath) .any (flT g) hfi hfs ⟨ex0,?_⟩
 refine sx_ ?_
 repeat' first | refine sp_ ?_ | exact ex0 | exact re0 []
end Go.Proofs.YthfocmakkeonoaaGreatDoor
