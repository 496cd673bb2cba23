/- Package buffer: a part that may be; walked. -/
import Derived.Test.YthfocmakkeonoaaGreatDoorBuf4z
set_option linter.unusedVariables false
set_option linter.unusedSimpArgs false
set_option maxRecDepth 100000
set_option maxHeartbeats 16000000
namespace Go.Proofs.YthfocmakkeonoaaGreatDoor
open Go.RowKit
structure EvI (x:Bu × Int × List Nat):Prop where
 cfg:x.1.Cfg
 fr:∀ f∈x.1.l,f.Ok
 ln:x.1.l.length+x.2.2.length≤1025
 e0:0≤x.1.ev
 e1:x.1.ev+x.1.l.length≤2199023255552
theorem QtZ {b:Bu} (hc:b.Cfg) (h:QdV b=true):∃ f l,b.l=f::l:=by
 cases hl:b.l with
 | cons f l=>exact ⟨f,l,rfl⟩
 | nil=>
  have h:=of_decide_eq_true h
  rw [hl] at h
  have:=hc.f0
  have:=hc.p0
  have:=hc.b0
  simp only [List.length_nil,Qb1,bts] at h
  omega
theorem QgO {t:Nat} {b:Bu} (h:QdV b=false):∀ {n:Nat} {k:Int} {e:List Nat},Qbh t n b k e=(b,k,e)
 | 0,k,e=>rfl
 | n+1,k,e=>by
  unfold Qbh
  rw [if_neg (by rw [h];decide)]
theorem Qqu {t:Nat} {cf cp cb:Int} {f:Fr} {l:List Fr} {hz pl dr ev:Int} (h:QdV ⟨cf,cp,cb,f::l,hz,pl,dr,ev⟩=true) {n:Nat} {k:Int} {e:List Nat} :
  Qbh t (n+1) ⟨cf,cp,cb,f::l,hz,pl,dr,ev⟩ k e=Qbh t n ⟨cf,cp,cb,l,f.tm,pl,dr,ev+1⟩ (if f.tm=t then 6 else k) (e++[f.tm]):=by
 rw [Qbh,if_pos h]
theorem Ql6 (b:Bu) (t:Nat) (i c:Int) (s:List UInt8) (now:Int) (hh:b.hz<t) (hb:QA5 i c=false) (ht:t<4294967296) (hs:s.length≤1048576)
  (b1:Bu) (f:Fr) (j:Nat) (hb1:b1.Cfg∧b1.l.length≤1025∧(∀ f∈b1.l,f.Ok)∧0≤b1.ev∧b1.ev≤1099511627776) (hf1:b1.l[j]? = some f) (R:Bu × Int × List Nat) (hR:Qbh t b1.l.length { b1 with l:=b1.l.set j (QbU f i c s).1 } (QbU f i c s).2 []=R)
  (cf:Qan Tryz.prog 73 [.ptr 0 0,.ca (.val (vu t)),.ca (.val (vi c)),.ca (.val (vi now))] [buO b] (.ptr 1 0) [buL b1 b1.l.length (Qb1 b1.l) (bts b1.l) j,frO f]) :
  Qan Tryz.prog 29 [.ptr 0 0,.ca (.val (vu t)),.ca (.val (.agg [vi i,vi c])),.ca (.val (vs s)),.ca (.val (vi now))] [buO b] (.ca (.val (cmV R.2.1 R.2.2))) [buO R.1]:=by
 have hb:¬(c<1∨255<c∨i<0∨c≤i):=of_decide_eq_false hb
 obtain ⟨hcfg,hlen,hfr,hev0,hev1⟩:=hb1
 have hfo:f.Ok:=hfr f (List.mem_of_getElem? hf1)
 have hfo2:=Qm6 hfo i c hs
 have p1:=Qm9 hfr
 have p2:=Qs1 hfr
 have q1:=Qkv (g:=(QbU f i c s).1) hf1
 have q2:=Qna (g:=(QbU f i c s).1) hf1
 have cp:=Qz7 f hfo i c s hs
 generalize (QbU f i c s).1=f2 at *
 generalize (QbU f i c s).2=k2 at *
 have hl1:=hfo.len
 have hl2:=hfo.n1
 have hl3:=hfo.sum
 have hl4:=hfo2.len
 have hl5:=hfo2.n1
 have hl6:=hfo2.sum
 have ca1:=fun es=>QoO b1 b1.l.length (Qb1 b1.l) (bts b1.l) es j f hfo (-1) (.inr rfl) (by omega) (by omega) (by omega)
 have ca2:=fun es=>QoO b1 (b1.l.length + -1) (Qb1 b1.l + -1 * f.ps.length) (bts b1.l + -1 * Qbo f.ps) es j f2 hfo2 1 (.inl rfl) (by omega) (by omega) (by omega)
 obtain ⟨b2,hb2⟩:∃ b2:Bu,b2 = { b1 with l:=b1.l.set j f2 }:=⟨_,rfl⟩
 have e1:(b1.l.length:Int) + -1+1=b2.l.length:=by rw [hb2];simp only [List.length_set];omega
 have e2:(Qb1 b1.l:Int) + -1 * f.ps.length+1 * f2.ps.length=Qb1 b2.l:=by rw [hb2];dsimp only;omega
 have e3:(bts b1.l:Int) + -1 * Qbo f.ps+1 * Qbo f2.ps=bts b2.l:=by rw [hb2];dsimp only;omega
 simp only [e1,e2,e3] at ca2
 clear e1 e2 e3
 have ca1:=ca1 ((b1.l.map fun f=>[T.box (frT f)]).set j [.av .any])
 have ca2:=ca2 ((b1.l.map fun f=>[T.box (frT f)]).set j [.av .any])
 refine Qaa Tryz.func29 rfl Tryz.ntmps29 Tryz.results29 ⟨by decide,by simp⟩ fun C hC=>?_
 (repeat' ((fail_if_success (refine Qat 9 ?_));(first | refine sp_ ?_ | exact ex0 | refine Qab Tryz.call73 (cf) [(1000,0)] ex1 ?_ | refine Qab Tryz.call74 (ca1) [(1000,0),(50,0)] ex1 ?_ | refine Qab Tryz.call75 (cp) [(50,0)] ex1 ?_ | refine Qab Tryz.call74 (ca2) [(1000,0),(50,0)] ex1 ?_ | exact re0 [])))
 refine QE2 (1000,7) (50,0) j 175 ((b1.l.map fun f=>T.box (frT f)).set j (.av .any)) ((b1.l.map fun f=>[T.box (frT f)]).set j [.av .any]) (b2.l.map fun f=>[T.box (frT f)]) .any (frT f2) (by simp [(List.getElem?_eq_some_iff.1 hf1).1]) (by rw [List.map_set,List.map_map];rfl) (by rw [hb2,List.set_set,List.map_set,List.map_set,List.map_map];rfl) ⟨ex0,?_⟩
 refine Qb2 (12,0) 1 (12,2) 27 1 ?_
 refine sx_ ?_
 have hsl:b2.l.length=b1.l.length:=by rw [hb2];simp
 have hb2c:b2.cf=b1.cf∧b2.cp=b1.cp∧b2.cb=b1.cb∧b2.hz=b1.hz∧b2.pl=b1.pl∧b2.dr=b1.dr∧b2.ev=b1.ev:=by rw [hb2];exact ⟨rfl,rfl,rfl,rfl,rfl,rfl,rfl⟩
 have hst:EvI (b2,k2,[]):=by
  obtain ⟨g1,g2,g3,g4,g5,g6,g7⟩:=hb2c
  refine ⟨⟨by rw [g1];exact hcfg.f0,by rw [g1];exact hcfg.f1,by rw [g2];exact hcfg.p0,by rw [g2];exact hcfg.p1,by rw [g3];exact hcfg.b0,by rw [g3];exact hcfg.b1⟩,fun g hg=>?_,by simp;omega,by rw [g7];exact hev0,by rw [g7];dsimp only;omega⟩
  rw [hb2] at hg
  rcases List.mem_or_eq_of_mem_set hg with h | rfl
  ·exact hfr g h
  ·exact hfo2
 have hRe:Qbh t b2.l.length b2 k2 []=R:=by rw [hsl,hb2];exact hR
 obtain ⟨g1,g2,g3,g4,g5,g6,g7⟩:=hb2c
 rw [←g1,←g2,←g3,←g4,←g5,←g6,←g7]
 clear g1 g2 g3 g4 g5 g6 g7 hR hb2 ca1 ca2 cf cp hsl
 refine QaD (α:={x:Bu × Int × List Nat // EvI x∧Qbh t x.1.l.length x.1 x.2.1 x.2.2=R}) (fun x=>[(.o (1000,0),.num 11),(.c (1000,0) 0,.av (.val (vi x.1.1.cf))),(.c (1000,0) 1,.av (.val (vi x.1.1.cp))),(.c (1000,0) 2,.av (.val (vi x.1.1.cb))),(.c (1000,0) 3,.av (.val (vi x.1.1.l.length))),(.c (1000,0) 4,.av (.val (vi (Qb1 x.1.1.l)))),(.c (1000,0) 5,.av (.val (vi (bts x.1.1.l)))),(.c (1000,0) 6,.av (.ref (1000,7) 0)),(.c (1000,0) 7,.av (.val (vi x.1.1.hz))),(.c (1000,0) 8,.av (.val (vi x.1.1.pl))),(.c (1000,0) 9,.av (.val (vi x.1.1.dr))),(.c (1000,0) 10,.av (.val (vi x.1.1.ev))),(.r (1000,7),.tree (.row 175 1 (x.1.1.l.map fun f=>[T.box (frT f)]))),(.s 0,.av (.ptr (1000,0) 0 0)),(.s 1,.av (.val (vu t))),(.o (10,0),.num 2),(.c (10,0) 0,.av (.val (vi 0))),(.c (10,0) 1,.av (.val (.sc (.slice none 0 0)))),(.s 10,.av (.ptr (10,0) 0 0)),(.o (12,0),.num 2),(.c (12,0) 0,.av (.val (vi x.1.2.1))),(.k (12,2),.row 27 1 x.1.2.2.length),(.c (12,0) 1,.av (.own (12,2) 0 27 1 (x.1.2.2.map fun t:Nat=>[vu t]))),(.s 12,.av (.ptr (12,0) 0 0))]) (fun x=>x.1.1.l.length) ⟨(b2,k2,[]),hst,hRe⟩ ?_ (fun x=>?_)
 ·exact ex0
 obtain ⟨⟨⟨cf,cp,cb,l0,hz,pl,dr,ev⟩,k,e⟩,hx,hR⟩:=x
 dsimp only at hx hR ⊢
 have co:=QwU ⟨cf,cp,cb,l0,hz,pl,dr,ev⟩
 cases ho:QdV ⟨cf,cp,cb,l0,hz,pl,dr,ev⟩ with
 | false=>
  rw [ho] at co
  rw [QgO ho] at hR
  subst hR
  repeat' first | refine sp_ ?_ | exact ex0 | refine Qab Tryz.call76 (co) [(1000,0)] ex1 ?_ | exact re0 []
 | true=>
  rw [ho] at co
  obtain ⟨f0,l1,hl0⟩:=QtZ hx.cfg ho
  dsimp only at hl0
  subst hl0
  rw [List.length_cons,Qqu ho] at hR
  have hof:=hx.fr f0 (List.mem_cons_self ..)
  have hft:=hof.tm
  have hxl:=hx.ln
  have hx0:0≤ev:=hx.e0
  have hx1:ev+(f0::l1).length≤2199023255552:=hx.e1
  simp only [List.length_cons] at hxl hx1
  have cpp:=QtV ⟨cf,cp,cb,f0::l1,hz,pl,dr,ev⟩ f0 l1 rfl hx.fr (by simp only [List.length_cons];omega)
  rw [show QDC ⟨cf,cp,cb,f0::l1,hz,pl,dr,ev⟩=⟨cf,cp,cb,l1,f0.tm,pl,dr,ev⟩ from rfl] at cpp
  have ct:=QkH f0
  have hx':∀ k',EvI (⟨cf,cp,cb,l1,f0.tm,pl,dr,ev+1⟩,k',e++[f0.tm]):=fun k'=>
   ⟨⟨hx.cfg.f0,hx.cfg.f1,hx.cfg.p0,hx.cfg.p1,hx.cfg.b0,hx.cfg.b1⟩,fun g hg=>hx.fr g (List.mem_cons_of_mem _ hg),by rw [List.length_append];simp;omega,by dsimp only;omega,by dsimp only;omega⟩
  have h32:(f0.tm:Int)<4294967296:=by omega
  by_cases he:f0.tm=t
  ·rw [if_pos he] at hR
   repeat' first | refine sp_ ?_ | exact ex0 | refine Qab Tryz.call76 (co) [(1000,0)] ex1 ?_ | refine Qab Tryz.call77 (cpp) [(1000,0)] ex1 ?_ | refine Qab Tryz.call78 (ct) [(69,0)] ex1 ?_ | exact re0 []
   refine Qau (α:={x:Bu × Int × List Nat // EvI x∧Qbh t x.1.l.length x.1 x.2.1 x.2.2=R}) ⟨(⟨cf,cp,cb,l1,f0.tm,pl,dr,ev+1⟩,6,e++[f0.tm]),hx' _,hR⟩ ⟨?_,by (try dsimp only);simp only [List.length_cons];omega⟩
   (try dsimp only)
   refine sx_ ?_
   rw [List.map_append]
   first | rfl | exact ⟨rfl,rfl⟩
  ·rw [if_neg he] at hR
   repeat' first | refine sp_ ?_ | exact ex0 | refine Qab Tryz.call76 (co) [(1000,0)] ex1 ?_ | refine Qab Tryz.call77 (cpp) [(1000,0)] ex1 ?_ | refine Qab Tryz.call78 (ct) [(69,0)] ex1 ?_ | exact re0 []
   refine Qau (α:={x:Bu × Int × List Nat // EvI x∧Qbh t x.1.l.length x.1 x.2.1 x.2.2=R}) ⟨(⟨cf,cp,cb,l1,f0.tm,pl,dr,ev+1⟩,k,e++[f0.tm]),hx' _,hR⟩ ⟨?_,by (try dsimp only);simp only [List.length_cons];omega⟩
   (try dsimp only)
   refine sx_ ?_
   rw [List.map_append]
   first | rfl | exact ⟨rfl,rfl⟩
end Go.Proofs.YthfocmakkeonoaaGreatDoor
