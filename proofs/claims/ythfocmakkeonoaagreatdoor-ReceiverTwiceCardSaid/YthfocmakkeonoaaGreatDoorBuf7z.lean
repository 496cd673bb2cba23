/- Package buffer: what is played; walked. -/
import Derived.Test.YthfocmakkeonoaaGreatDoorBuf3z
set_option linter.unusedVariables false
set_option linter.unusedSimpArgs false
set_option maxRecDepth 100000
set_option maxHeartbeats 16000000
namespace Go.Proofs.YthfocmakkeonoaaGreatDoor
open Go.RowKit
abbrev QGz (p:Nat × List UInt8):List V:=[vu p.1,vs p.2]
def plE (p:Nat × List UInt8):List V:=QGz p
attribute [go_sem] plE
structure PlI (x:Bu × List (Nat × List UInt8) × List Nat):Prop where
 fr:∀ f∈x.1.l,f.Ok
 ln:x.1.l.length+x.2.1.length+x.2.2.length≤1025
 p0:0≤x.1.pl
 p1:x.1.pl+x.1.l.length≤2199023255552
 d0:0≤x.1.dr
 d1:x.1.dr+x.1.l.length≤2199023255552
def plN (now delay most:Int) (x:Bu × List (Nat × List UInt8) × List Nat):Bu × List (Nat × List UInt8) × List Nat:=
 let r:=Qb4 now delay most x.1.l x.1.hz
 ({ x.1 with l:=r.l,hz:=r.hz,pl:=x.1.pl+r.out.length,dr:=x.1.dr+r.gone.length },x.2.1++r.out,x.2.2++r.gone)
theorem QAQ {now delay most cf cp cb hz pl dr ev:Int} {o:List (Nat × List UInt8)} {g:List Nat}:plN now delay most (⟨cf,cp,cb,[],hz,pl,dr,ev⟩,o,g)=(⟨cf,cp,cb,[],hz,pl,dr,ev⟩,o,g):=by
 simp [plN,Qb4]
theorem QAR {now delay most cf cp cb hz pl dr ev:Int} {f:Fr} {l:List Fr} {o:List (Nat × List UInt8)} {g:List Nat} (h:QbF f=true∧delay≤now-f.t0) :
  plN now delay most (⟨cf,cp,cb,f::l,hz,pl,dr,ev⟩,o,g)=plN now delay most (⟨cf,cp,cb,l,f.tm,pl+1,dr,ev⟩,o++[(f.tm,Qm5 f)],g):=by
 unfold plN
 dsimp only
 rw [Qb4,if_pos h]
 dsimp only
 rw [List.append_assoc,List.length_cons]
 refine Prod.ext ?_ rfl
 show Bu.mk _ _ _ _ _ _ _ _=Bu.mk _ _ _ _ _ _ _ _
 congr 1
 omega
theorem Qpg {now delay most cf cp cb hz pl dr ev:Int} {f:Fr} {l:List Fr} {o:List (Nat × List UInt8)} {g:List Nat} (h:¬(QbF f=true∧delay≤now-f.t0)) (h2:most≤now-f.t0) :
  plN now delay most (⟨cf,cp,cb,f::l,hz,pl,dr,ev⟩,o,g)=plN now delay most (⟨cf,cp,cb,l,f.tm,pl,dr+1,ev⟩,o,g++[f.tm]):=by
 unfold plN
 dsimp only
 rw [Qb4,if_neg h,if_pos h2]
 dsimp only
 rw [List.append_assoc,List.length_cons]
 refine Prod.ext ?_ rfl
 show Bu.mk _ _ _ _ _ _ _ _=Bu.mk _ _ _ _ _ _ _ _
 congr 1
 omega
theorem Qph {now delay most cf cp cb hz pl dr ev:Int} {f:Fr} {l:List Fr} {o:List (Nat × List UInt8)} {g:List Nat} (h:¬(QbF f=true∧delay≤now-f.t0)) (h2:¬most≤now-f.t0) :
  plN now delay most (⟨cf,cp,cb,f::l,hz,pl,dr,ev⟩,o,g)=(⟨cf,cp,cb,f::l,hz,pl,dr,ev⟩,o,g):=by
 unfold plN
 dsimp only
 rw [Qb4,if_neg h,if_neg h2]
 simp
theorem QxB (b:Bu) (now delay most:Int) (hb:PlI (b,[],[])) (hn:-1099511627776≤now∧now≤1099511627776) (hd:-9223372036854775808≤delay∧delay≤9223372036854775807) (hm:-9223372036854775808≤most∧most≤9223372036854775807) :
  Qan Tryz.prog 34 [.ptr 0 0,.ca (.val (vi now)),.ca (.val (vi delay)),.ca (.val (vi most))] [buO b] (.ca (.val (.tup [.lst 2 ((Qfh b now delay most).2.1.map plE),.lst 1 ((Qfh b now delay most).2.2.map fun t:Nat=>[vu t])]))) [buO (Qfh b now delay most).1]:=by
 obtain ⟨R,hR⟩:∃ R,plN now delay most (b,[],[])=R:=⟨_,rfl⟩
 have hR':Qfh b now delay most=R:=hR
 rw [hR']
 clear hR'
 refine Qaa Tryz.func34 rfl Tryz.ntmps34 Tryz.results34 ⟨by decide,by simp⟩ fun C hC=>?_
 (repeat' ((fail_if_success (refine Qat 3 ?_));(first | refine sp_ ?_ | exact ex0 | exact re0 [])))
 refine Qij 10 (10,1) 56 2 ?_
 refine sx_ ?_
 refine Qij 11 (11,1) 27 1 ?_
 refine sx_ ?_
 refine QaD (α:={x:Bu × List (Nat × List UInt8) × List Nat // PlI x∧plN now delay most x=R}) (fun x=>[(.o (1000,0),.num 11),(.c (1000,0) 0,.av (.val (vi x.1.1.cf))),(.c (1000,0) 1,.av (.val (vi x.1.1.cp))),(.c (1000,0) 2,.av (.val (vi x.1.1.cb))),(.c (1000,0) 3,.av (.val (vi x.1.1.l.length))),(.c (1000,0) 4,.av (.val (vi (Qb1 x.1.1.l)))),(.c (1000,0) 5,.av (.val (vi (bts x.1.1.l)))),(.c (1000,0) 6,.av (.ref (1000,7) 0)),(.c (1000,0) 7,.av (.val (vi x.1.1.hz))),(.c (1000,0) 8,.av (.val (vi x.1.1.pl))),(.c (1000,0) 9,.av (.val (vi x.1.1.dr))),(.c (1000,0) 10,.av (.val (vi x.1.1.ev))),(.r (1000,7),.tree (.row 175 1 (x.1.1.l.map fun f=>[T.box (frT f)]))),(.s 0,.av (.ptr (1000,0) 0 0)),(.s 1,.av (.val (vi now))),(.s 2,.av (.val (vi delay))),(.s 3,.av (.val (vi most))),(.k (10,1),.row 56 2 x.1.2.1.length),(.s 10,.av (.own (10,1) 0 56 2 (x.1.2.1.map plE))),(.k (11,1),.row 27 1 x.1.2.2.length),(.s 11,.av (.own (11,1) 0 27 1 (x.1.2.2.map fun t:Nat=>[vu t])))]) (fun x=>x.1.1.l.length) ⟨(b,[],[]),hb,hR⟩ ?_ (fun x=>?_)
 ·exact ex0
 obtain ⟨⟨⟨cf,cp,cb,l0,hz,pl,dr,ev⟩,o,g⟩,hx,hR⟩:=x
 dsimp only at hx hR ⊢
 cases l0 with
 | nil=>
  rw [QAQ] at hR
  subst hR
  repeat' first | refine sp_ ?_ | exact ex0 | exact re0 []
 | cons f l=>
  have hof:=hx.fr f (List.mem_cons_self ..)
  have hft:=hof.tm
  have hf0:=hof.t0
  have hf1:=hof.t1
  have hxl:=hx.ln
  have hx0:0≤pl:=hx.p0
  have hx1:pl+(f::l).length≤2199023255552:=hx.p1
  have hx2:0≤dr:=hx.d0
  have hx3:dr+(f::l).length≤2199023255552:=hx.d1
  have hlen:(f::l).length≤2000:=by dsimp only at hxl;omega
  simp only [List.length_cons] at hxl hx1 hx3
  have cd:=QwR f hof
  have cf1:=QtO f
  have ct:=QkH f
  have cpp:=QtV ⟨cf,cp,cb,f::l,hz,pl,dr,ev⟩ f l rfl hx.fr hlen
  rw [show QDC ⟨cf,cp,cb,f::l,hz,pl,dr,ev⟩=⟨cf,cp,cb,l,f.tm,pl,dr,ev⟩ from rfl] at cpp
  have hlt:((f::l).length:Int) > 0:=by simp only [List.length_cons];omega
  (repeat' ((fail_if_success (first | refine Qas 4 ?_ | refine Qay 4 ?_));(first | refine sp_ ?_ | exact ex0 | exact re0 [])))
  refine Qwm (1000,7) (90,1) (f::l) frT 175 ⟨ex0,by decide,by decide⟩ fun zs hz'=>?_
  obtain ⟨b0,zs',rfl,hzl⟩:∃ b0 zs',zs=(b0,f)::zs'∧zs'.map (·.2)=l:=by
   match zs,hz' with
   | (b0,f0)::zs',hz'=>
    simp only [List.map_cons,List.cons.injEq] at hz'
    exact ⟨b0,zs',by rw [hz'.1],hz'.2⟩
  clear hz'
  simp only [List.map_cons]
  generalize hE:(zs'.map fun z=>[V.sc (pw z.1)])=es
  generalize hG:(zs'.map fun z=>(pw z.1,T.box (frT z.2)))=gs
  refine Qm0 hC (90,1) 27 0 [27,37,82] [] (pw b0) ((pw b0,.box (frT f))::gs) ((pw b0,.av .any)::gs) (frT f) rfl rfl ⟨rfl,rfl⟩ ⟨ex0,?_⟩
  (repeat' ((fail_if_success (first | refine Qas 7 ?_ | refine Qay 7 ?_));(first | refine sp_ ?_ | exact ex0 | refine Qab Tryz.call84 (cd) [(27,0)] ex1 ?_ | refine Qab Tryz.call85 (cf1) [(27,0)] ex1 ?_ | exact re0 [])))
  refine QE0 hC (90,1) (27,0) 0 82 [] (pw b0) ((pw b0,.av .any)::gs) ((pw b0,.box (frT f))::gs) .any (frT f) rfl rfl rfl ⟨ex0,?_⟩
  refine QCf (1000,7) (90,1) 175 ((pw b0,.box (frT f))::gs) ([V.sc (pw b0)]::es) ((f::l).map fun f=>[T.box (frT f)]) (by rw [←hE,←hG,List.map_cons,List.map_map];rfl) (by rw [←hG,←hzl,List.map_cons,List.map_cons,List.map_map,List.map_map];rfl) ⟨ex0,?_⟩
  have h32:(f.tm:Int)<4294967296:=by omega
  cases hw:QbF f with
  | true=>
   by_cases hd2:delay≤now-f.t0
   ·rw [QAR ⟨hw,hd2⟩] at hR
    repeat' first | refine sp_ ?_ | exact ex0 | refine Qab Tryz.call77 (cpp) [(1000,0)] ex1 ?_ | refine Qab Tryz.call78 (ct) [(51,0)] ex1 ?_ | exact re0 []
    refine Qau (α:={x:Bu × List (Nat × List UInt8) × List Nat // PlI x∧plN now delay most x=R}) ⟨(⟨cf,cp,cb,l,f.tm,pl+1,dr,ev⟩,o++[(f.tm,Qm5 f)],g),⟨fun q hq=>hx.fr q (List.mem_cons_of_mem _ hq),by rw [List.length_append];simp;omega,by dsimp only;omega,by dsimp only;omega,by dsimp only;omega,by dsimp only;omega⟩,hR⟩ ⟨?_,by (try dsimp only);simp only [List.length_cons];omega⟩
    (try dsimp only)
    refine sx_ ?_
    rw [List.map_append]
    first | rfl | exact ⟨rfl,rfl⟩
   ·have hna:¬(QbF f=true∧delay≤now-f.t0):=fun q=>hd2 q.2
    by_cases hm2:most≤now-f.t0
    ·rw [Qpg hna hm2] at hR
     repeat' first | refine sp_ ?_ | exact ex0 | refine Qab Tryz.call77 (cpp) [(1000,0)] ex1 ?_ | refine Qab Tryz.call78 (ct) [(70,0)] ex1 ?_ | exact re0 []
     refine Qau (α:={x:Bu × List (Nat × List UInt8) × List Nat // PlI x∧plN now delay most x=R}) ⟨(⟨cf,cp,cb,l,f.tm,pl,dr+1,ev⟩,o,g++[f.tm]),⟨fun q hq=>hx.fr q (List.mem_cons_of_mem _ hq),by rw [List.length_append];simp;omega,by dsimp only;omega,by dsimp only;omega,by dsimp only;omega,by dsimp only;omega⟩,hR⟩ ⟨?_,by (try dsimp only);simp only [List.length_cons];omega⟩
     (try dsimp only)
     refine sx_ ?_
     rw [List.map_append]
     first | rfl | exact ⟨rfl,rfl⟩
    ·rw [Qph hna hm2] at hR
     subst hR
     repeat' first | refine sp_ ?_ | exact ex0 | exact re0 []
  | false=>
   have hna:¬(QbF f=true∧delay≤now-f.t0):=fun q=>by rw [hw] at q;exact absurd q.1 (by decide)
   by_cases hm2:most≤now-f.t0
   ·rw [Qpg hna hm2] at hR
    repeat' first | refine sp_ ?_ | exact ex0 | refine Qab Tryz.call77 (cpp) [(1000,0)] ex1 ?_ | refine Qab Tryz.call78 (ct) [(70,0)] ex1 ?_ | exact re0 []
    refine Qau (α:={x:Bu × List (Nat × List UInt8) × List Nat // PlI x∧plN now delay most x=R}) ⟨(⟨cf,cp,cb,l,f.tm,pl,dr+1,ev⟩,o,g++[f.tm]),⟨fun q hq=>hx.fr q (List.mem_cons_of_mem _ hq),by rw [List.length_append];simp;omega,by dsimp only;omega,by dsimp only;omega,by dsimp only;omega,by dsimp only;omega⟩,hR⟩ ⟨?_,by (try dsimp only);simp only [List.length_cons];omega⟩
    (try dsimp only)
    refine sx_ ?_
    rw [List.map_append]
    first | rfl | exact ⟨rfl,rfl⟩
   ·rw [Qph hna hm2] at hR
    subst hR
    repeat' first | refine sp_ ?_ | exact ex0 | exact re0 []
end Go.Proofs.YthfocmakkeonoaaGreatDoor
