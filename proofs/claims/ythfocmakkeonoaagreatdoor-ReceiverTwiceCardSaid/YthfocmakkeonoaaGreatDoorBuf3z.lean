/- Package buffer: over, pop; walked. -/
import Derived.Test.YthfocmakkeonoaaGreatDoorBuf1z
set_option linter.unusedVariables false
set_option linter.unusedSimpArgs false
set_option maxRecDepth 100000
set_option maxHeartbeats 16000000
namespace Go.Proofs.YthfocmakkeonoaaGreatDoor
open Go.RowKit
theorem Qya {α:Type} (g:α→V) (l:List α):∀ r∈l.map (fun a=>[g a]),r.length=1:=fun r h=>by obtain ⟨e,_,rfl⟩:=List.mem_map.1 h;rfl
theorem QCT {α:Type} (g:α→Nat) (l:List α):∀ r∈l.map (fun a=>[V.sc (pw (g a))]),∀ y∈r,Qfn y=true:=fun r h y hy=>by obtain ⟨e,_,rfl⟩:=List.mem_map.1 h;simp at hy;subst hy;rfl
theorem QwU (b:Bu):Qan Tryz.prog 76 [.ptr 0 0] [buO b] (.ca (.val (vb (QdV b)))) [buO b]:=by
 unfold QdV
 by_cases h1:b.cf<b.l.length
 ·rw [decide_eq_true (.inl h1)]
  refine Qaa Tryz.func76 rfl Tryz.ntmps76 Tryz.results76 ⟨by decide,by simp⟩ fun C hC=>?_
  repeat' first | refine sp_ ?_ | exact ex0 | exact re0 []
 ·by_cases h2:b.cp<Qb1 b.l
  ·rw [decide_eq_true (.inr (.inl h2))]
   refine Qaa Tryz.func76 rfl Tryz.ntmps76 Tryz.results76 ⟨by decide,by simp⟩ fun C hC=>?_
   repeat' first | refine sp_ ?_ | exact ex0 | exact re0 []
  ·by_cases h3:b.cb<bts b.l
   ·rw [decide_eq_true (.inr (.inr h3))]
    refine Qaa Tryz.func76 rfl Tryz.ntmps76 Tryz.results76 ⟨by decide,by simp⟩ fun C hC=>?_
    repeat' first | refine sp_ ?_ | exact ex0 | exact re0 []
   ·rw [decide_eq_false (by omega)]
    refine Qaa Tryz.func76 rfl Tryz.ntmps76 Tryz.results76 ⟨by decide,by simp⟩ fun C hC=>?_
    repeat' first | refine sp_ ?_ | exact ex0 | exact re0 []
theorem QtV (b:Bu) (f:Fr) (l:List Fr) (hb:b.l=f::l) (hf:∀ g∈b.l,g.Ok) (hl:b.l.length≤2000):Qan Tryz.prog 77 [.ptr 0 0] [buO b] (.ptr 1 0) [buO (QDC b),frO f]:=by
 obtain ⟨cf,cp,cb,l0,hz,pl,dr,ev⟩:=b
 dsimp only at hb hf hl
 subst hb
 rw [show QDC ⟨cf,cp,cb,f::l,hz,pl,dr,ev⟩=⟨cf,cp,cb,l,f.tm,pl,dr,ev⟩ from rfl]
 have p1:=Qm9 hf
 have p2:=Qs1 hf
 have ca:=fun es=>QtU ⟨cf,cp,cb,f::l,hz,pl,dr,ev⟩ (f::l).length (Qb1 (f::l)) (bts (f::l)) es f (hf f (List.mem_cons_self ..)) (-1) (.inr rfl) (by omega) (by omega) (by omega)
 have e1:((f::l).length:Int) + -1=l.length:=by simp only [List.length_cons];omega
 have e2:(Qb1 (f::l):Int) + -1 * f.ps.length=Qb1 l:=by rw [Qb1];omega
 have e3:(bts (f::l):Int) + -1 * Qbo f.ps=bts l:=by rw [bts];omega
 simp only [e1,e2,e3] at ca
 clear e1 e2 e3
 have ct:=QkH f
 have hn:=(hf f (List.mem_cons_self ..)).tm
 refine Qaa Tryz.func77 rfl Tryz.ntmps77 Tryz.results77 ⟨by decide,by simp⟩ fun C hC=>?_
 refine Qwm (1000,7) (90,1) (f::l) frT 175 ⟨ex0,by decide,by decide⟩ fun zs hz=>?_
 obtain ⟨b0,zs',rfl,hzl⟩:∃ b0 zs',zs=(b0,f)::zs'∧zs'.map (·.2)=l:=by
  match zs,hz with
  | (b0,f0)::zs',hz=>
   simp only [List.map_cons,List.cons.injEq] at hz
   exact ⟨b0,zs',by rw [hz.1],hz.2⟩
 simp only [List.map_cons]
 have hzn:zs'.length=l.length:=by rw [←hzl,List.length_map]
 generalize hE:(zs'.map fun z=>[V.sc (pw z.1)])=es
 have hel:es.length=l.length:=by rw [←hE,List.length_map,hzn]
 have cd:=QtT ([V.sc (pw b0)]::es) 0 1 (by omega) (by simp) (by simp only [List.length_cons] at hl ⊢;omega) (fun r hr=>by
  rcases List.mem_cons.1 hr with rfl | hr
  ·rfl
  ·rw [←hE] at hr;exact Qya (fun z=>V.sc (pw z.1)) zs' r hr) (fun r hr y hy=>by
  rcases List.mem_cons.1 hr with rfl | hr
  ·simp at hy;subst hy;rfl
  ·rw [←hE] at hr;exact QCT (fun z=>z.1) zs' r hr y hy)
 simp only [List.take_zero,List.drop_succ_cons,List.drop_zero,List.nil_append] at cd
 refine Qm0 hC (90,1) 9 0 [9] [] (pw b0) ((pw b0,.box (frT f))::zs'.map fun z=>(pw z.1,T.box (frT z.2))) ((pw b0,.av .any)::zs'.map fun z=>(pw z.1,T.box (frT z.2))) (frT f) rfl rfl ⟨rfl,rfl⟩ ⟨ex0,?_⟩
 (repeat' ((fail_if_success (refine Qbf ?_));(first | refine sp_ ?_ | exact ex0 | refine Qab Tryz.call145 (cd) [] ex1 ?_ | refine Qab Tryz.call74 ((ca es)) [(1000,0),(9,0)] ex1 ?_ | refine Qab Tryz.call78 (ct) [(9,0)] ex1 ?_ | exact re0 [])))
 refine QE1 (90,1) 0 ((pw b0,.av .any)::zs'.map fun z=>(pw z.1,T.box (frT z.2))) (zs'.map fun z=>(pw z.1,T.box (frT z.2))) rfl ⟨ex0,?_⟩
 refine QCf (1000,7) (90,1) 175 (zs'.map fun z=>(pw z.1,T.box (frT z.2))) es (l.map fun f=>[T.box (frT f)]) (by rw [←hE,List.map_map];rfl) (by rw [List.map_map,←hzl,List.map_map];rfl) ⟨ex0,?_⟩
 repeat' first | refine sp_ ?_ | exact ex0 | exact re0 [(9,0)]
def frV (f:Fr):V:=.ep [vu f.tm,vi f.n,vi f.t0,.any,vi (Qbo f.ps)]
attribute [go_sem] frV
theorem Qqt (f:Fr):Qan Tryz.prog 78 [.ca (.val (frV f))] [] (.ca (.val (vu f.tm))) []:=by
 refine Qaa Tryz.func78 rfl Tryz.ntmps78 Tryz.results78 ⟨by decide,by simp⟩ fun C hC=>?_
 repeat' first | refine sp_ ?_ | exact ex0 | exact re0 []
theorem QAb (f:Fr) (hf:f.Ok) (t:Nat) (ht:t<4294967296):Qan Tryz.prog 138 [.ca (.val (frV f)),.ca (.val (vu t))] [] (.ca (.val (vi (QoI f.tm t)))) []:=by
 have c1:=Qqt f
 have c2:=Qz9 f.tm t
 have h1:=hf.tm
 refine Qaa Tryz.func138 rfl Tryz.ntmps138 Tryz.results138 ⟨by decide,by simp⟩ fun C hC=>?_
 repeat' first | refine sp_ ?_ | exact ex0 | refine Qab Tryz.call78 (c1) [] ex1 ?_ | refine Qab Tryz.call139 (c2) [] ex1 ?_ | exact re0 []
def QtW (l:List Fr) (t i:Nat):Int:=match l[i]? with | some f=>QoI f.tm t | none=>0
theorem QeI {l:List Fr} {t i:Nat} (h:i<l.length):QtW l t i=QoI l[i].tm t:=by unfold QtW;rw [List.getElem?_eq_getElem h]
theorem QE6 {l:List Fr} {t:Nat} (hs:l.Pairwise fun f g=>f.tm<g.tm):Qdv (QtW l t) l.length=atF l t:=by
 refine Qf8 _ _ _ (QjH l t) (fun k hk=>?_) (fun k h1 h2=>?_)
 ·have hkl:k<l.length:=Nat.lt_of_lt_of_le hk (QjH l t)
  rw [QeI hkl,Qc9]
  have:=Qos k hkl hk
  omega
 ·rw [QeI h2]
  have:=Qot hs k h2 h1
  have h3:=Qc9 l[k].tm t
  omega
theorem QE7 (l:List Fr) (t:Nat):(decide (atF l t<l.length) && decide (QtW l t (atF l t)=0))=isF l t:=by
 unfold isF
 by_cases h:atF l t<l.length
 ·rw [QeI h,List.getElem?_eq_getElem h,decide_eq_true h,Bool.true_and]
  dsimp only
  by_cases e:l[atF l t].tm=t
  ·rw [decide_eq_true e,decide_eq_true ((QkF _ _).2 (by omega))]
  ·rw [decide_eq_false e,decide_eq_false (fun q=>e (by have:=(QkF _ _).1 q;omega))]
 ·rw [decide_eq_false h,List.getElem?_eq_none (by omega)]
  rfl
theorem Qyb (l:List Fr) (t:Nat) (ht:t<4294967296) (hl:l.length≤1000000) (hf:∀ f∈l,f.Ok) (hs:l.Pairwise fun f g=>f.tm<g.tm) :
  Qan Tryz.prog 137 [.ca (.val (.lst 1 (l.map fun f=>[frV f]))),.ca (.val (vu t)),.fn 138 []] [] (.ca (.val (.tup [vi (atF l t),vb (isF l t)]))) []:=by
 have h:=QwS (l.map frV) t 138 Tryz.call138 (QtW l t) (by rw [List.length_map];exact hl) (fun i hi=>by
  rw [List.length_map] at hi
  rw [List.getElem_map,QeI hi]
  exact QAb l[i] (hf _ (List.getElem_mem hi)) t ht) (fun i j hij hj h0=>by
  rw [List.length_map] at hj
  rw [QeI (by omega)] at h0
  rw [QeI hj]
  have h1:=Qc9 l[i].tm t
  have h2:=Qc9 l[j].tm t
  rcases Nat.lt_or_ge i j with h | h
  ·have:=List.pairwise_iff_getElem.1 hs i j (by omega) hj h
   omega
  ·obtain rfl:i=j:=by omega
   omega)
 rw [List.length_map,QE6 hs,QE7,List.map_map] at h
 exact h
end Go.Proofs.YthfocmakkeonoaaGreatDoor
namespace Go.Proofs.YthfocmakkeonoaaGreatDoor
open Go.RowKit
def buL (b:Bu) (tf tp tb:Int) (i:Nat):List CA:=buG b tf tp tb (.hdl (.row 175 1 ((b.l.map fun f=>[T.box (frT f)]).set i [.av .any])) i 1)
attribute [go_sem] buL
theorem QCU {α:Type} {zs:List (Nat × α)} {l:List α} (h:zs.map (·.2)=l) {i:Nat} (hi:i<l.length):∃ b,zs[i]? = some (b,l[i]):=by
 subst h
 have hi':i<zs.length:=by simpa using hi
 exact ⟨zs[i].1,by rw [List.getElem?_eq_getElem hi'];simp⟩
theorem QE8 (l:List Fr):List.map (fun x=>List.map (QmX 3) x) (List.map (fun f=>[T.box (frT f)]) l)=List.map (fun f=>[V.ep [vu f.tm,vi f.n,vi f.t0,V.any,vi (Qbo f.ps)]]) l:=by rw [List.map_map];rfl
attribute [go_sem] QE8
theorem Qyc {zs:List (Nat × Fr)} {i b:Nat} {f:Fr} (h:zs[i]? = some (b,f)) :
  (zs.map fun z=>(pw z.1,T.box (frT z.2)))[i]? = some (pw b,T.box (frT f))∧(zs.map fun z=>[V.sc (pw z.1)]).getD i []=[V.sc (pw b)] ∧
  ((zs.map fun z=>(pw z.1,T.box (frT z.2))).set i (pw b,T.av .any))[i]? = some (pw b,T.av .any) ∧
  (zs.map fun z=>[V.sc (pw z.1)])=(((zs.map fun z=>(pw z.1,T.box (frT z.2))).set i (pw b,T.av .any)).map fun p=>[V.sc p.1]) ∧
  ((((zs.map fun z=>(pw z.1,T.box (frT z.2))).set i (pw b,T.av .any)).map fun p=>[p.2])=((zs.map (·.2)).map fun f=>[T.box (frT f)]).set i [T.av .any]):=by
 obtain ⟨hi,he⟩:=List.getElem?_eq_some_iff.1 h
 refine ⟨by rw [List.getElem?_map,h];rfl,by rw [List.getD_eq_getElem?_getD,List.getElem?_map,h];rfl,by simp [hi],?_,?_⟩
 ·rw [List.map_set,List.map_map,QdG]
  ·rfl
  ·rw [List.getElem?_map,h];rfl
 ·rw [List.map_set,List.map_map,List.map_map]
  rfl
theorem Ql4 (b:Bu) (t:Nat) (c now:Int) (h:isF b.l t=true) (f:Fr) (hfa:b.l[atF b.l t]? = some f) (ht:t<4294967296) (hl:b.l.length≤2000) (hf:∀ f∈b.l,f.Ok) (hs:b.l.Pairwise fun f g=>f.tm<g.tm) :
  Qan Tryz.prog 73 [.ptr 0 0,.ca (.val (vu t)),.ca (.val (vi c)),.ca (.val (vi now))] [buO b] (.ptr 1 0) [buL b b.l.length (Qb1 b.l) (bts b.l) (atF b.l t),frO f]:=by
 obtain ⟨cf,cp,cb,l,hz,pl,dr,ev⟩:=b
 dsimp only at h hfa hl hf hs ⊢
 have cs:=Qyb l t ht (by omega) hf hs
 rw [h] at cs
 generalize hI:atF l t=i at *
 obtain ⟨hi,hfi⟩:=List.getElem?_eq_some_iff.1 hfa
 refine Qaa Tryz.func73 rfl Tryz.ntmps73 Tryz.results73 ⟨by decide,by simp⟩ fun C hC=>?_
 (repeat' ((fail_if_success (first | refine Qas 6 ?_ | refine Qay 6 ?_));(first | refine sp_ ?_ | exact ex0 | refine Qee Tryz.call137 (cs) ex1 ?_ | exact re0 [])))
 refine Qwm (1000,7) (90,1) l frT 175 ⟨ex0,by decide,by decide⟩ fun zs hzl=>?_
 obtain ⟨b0,hb0⟩:=QCU hzl hi
 rw [hfi] at hb0
 obtain ⟨j1,j2,j3,j4,j5⟩:=Qyc hb0
 have hlz:zs.length=l.length:=by rw [←hzl,List.length_map]
 refine Qm0 hC (90,1) 48 i [49,37] [] (pw b0) (zs.map fun z=>(pw z.1,T.box (frT z.2))) ((zs.map fun z=>(pw z.1,T.box (frT z.2))).set i (pw b0,.av .any)) (frT f) j1 rfl ⟨rfl,rfl⟩ ⟨ex0,?_⟩
 repeat' first | refine sp_ ?_ | exact ex0 | exact re0 []
 refine ⟨⟨by omega,by rw [(List.getElem?_eq_some_iff.1 hb0).2]⟩,?_⟩
 refine QCg (1000,7) (90,1) (48,0) i 37 (pw b0) (.av .any) 175 ((zs.map fun z=>(pw z.1,T.box (frT z.2))).set i (pw b0,.av .any)) (zs.map fun z=>[V.sc (pw z.1)]) ((l.map fun f=>[T.box (frT f)]).set i [.av .any]) j3 j4 (by rw [j5,hzl]) ⟨ex0,?_⟩
 repeat' first | refine sp_ ?_ | exact ex0 | exact re0 [(48,0)]
theorem QtX {α:Type} (x:α):∀ (l:List α) (i:Nat),i≤l.length→l.insertIdx i x=l.take i++x::l.drop i
 | l,0,_=>by simp
 | [],i+1,h=>by simp at h
 | y::l,i+1,h=>by simp [QtX x l i (by simpa using h)]
theorem Qno {α β:Type} (g:α→β) (l:List α) (i:Nat) (x:α):(l.take i++x::l.drop i).map g=(l.map g).take i++g x::(l.map g).drop i:=by simp
theorem QoN (l:List Fr) (i:Nat) (x:Fr):Qb1 (l.take i++x::l.drop i)=Qb1 l+x.ps.length:=by
 have:Qb1 l=Qb1 (l.take i)+Qb1 (l.drop i):=by rw [←Qor,List.take_append_drop]
 rw [Qor,Qb1,this];omega
theorem QtY (l:List Fr) (i:Nat) (x:Fr):bts (l.take i++x::l.drop i)=bts l+Qbo x.ps:=by
 have:bts l=bts (l.take i)+bts (l.drop i):=by rw [←QsZ,List.take_append_drop]
 rw [QsZ,bts,this];omega
theorem QkI (b:Bu) (t:Nat) (c now:Int) (h:isF b.l t=false) (ht:t<4294967296) (hl:b.l.length≤2000) (hf:∀ f∈b.l,f.Ok) (hs:b.l.Pairwise fun f g=>f.tm<g.tm) (f:Fr) (hfe:f=Qg7 t c now) (hfo:f.Ok) (l':List Fr) (hl':l'=b.l.take (atF b.l t)++f::b.l.drop (atF b.l t)) :
  Qan Tryz.prog 73 [.ptr 0 0,.ca (.val (vu t)),.ca (.val (vi c)),.ca (.val (vi now))] [buO b] (.ptr 1 0) [buL { b with l:=l' } l'.length (Qb1 l') (bts l') (atF b.l t),frO f]:=by
 obtain ⟨cf,cp,cb,l,hz,pl,dr,ev⟩:=b
 dsimp only at h hl hf hs hl' ⊢
 have cs:=Qyb l t ht (by omega) hf hs
 have cn:=Qz6 t c now
 have hps:f.ps=[]:=by rw [hfe];rfl
 rw [←hfe] at cn
 rw [h] at cs
 have hi:=QjH l t
 generalize hI:atF l t=i at *
 have p1:=Qm9 hf
 have p2:=Qs1 hf
 have ca:=fun es=>QtU ⟨cf,cp,cb,l',hz,pl,dr,ev⟩ l.length (Qb1 l) (bts l) es f hfo 1 (.inl rfl) (by omega) (by omega) (by omega)
 rw [hps] at ca
 have e1:(l.length:Int)+1=l'.length:=by rw [hl',Qnb];omega
 have e2:(Qb1 l:Int)+1 * (([]:List (Nat × List UInt8)).length:Nat)=Qb1 l':=by rw [hl',QoN,hps];simp
 have e3:(bts l:Int)+1 * (Qbo []:Nat)=bts l':=by rw [hl',QtY,hps];simp [Qbo]
 simp only [e1,e2,e3] at ca
 clear e1 e2 e3
 refine Qaa Tryz.func73 rfl Tryz.ntmps73 Tryz.results73 ⟨by decide,by simp⟩ fun C hC=>?_
 (repeat' ((fail_if_success (first | refine Qas 4 ?_ | refine Qay 4 ?_));(first | refine sp_ ?_ | exact ex0 | refine Qee Tryz.call137 (cs) ex1 ?_ | refine Qab Tryz.call140 (cn) [] ex1 ?_ | exact re0 [])))
 refine Qwm (1000,7) (90,1) l frT 175 ⟨ex0,by decide,by decide⟩ fun zs hzl=>?_
 have hlz:zs.length=l.length:=by rw [←hzl,List.length_map]
 refine QCe hC (90,1) (26,0) i [11] (zs.map fun z=>(pw z.1,T.box (frT z.2))) (frT f) (by rw [List.length_map];omega) rfl ⟨ex0,ex0,ex0,ex0,ex0⟩ fun b0=>?_
 obtain ⟨zs2,hz2⟩:∃ zs2,zs2=zs.take i++(b0,f)::zs.drop i:=⟨_,rfl⟩
 have hins:(zs.map fun z=>(pw z.1,T.box (frT z.2))).insertIdx i (pw b0,T.box (frT f))=zs2.map fun z=>(pw z.1,T.box (frT z.2)):=by
  rw [QtX _ _ _ (by rw [List.length_map];omega),hz2,Qno]
 rw [hins]
 have hb0:zs2[i]? = some (b0,f):=by rw [hz2];exact Qov _ _ _ (by omega)
 have hzl2:zs2.map (·.2)=l':=by rw [hz2,Qno,hzl,hl']
 have hlz2:zs2.length=l'.length:=by rw [←hzl2,List.length_map]
 have hll:l'.length=l.length+1:=by rw [hl',Qnb]
 obtain ⟨j1,j2,j3,j4,j5⟩:=Qyc hb0
 have ci:=QtS (zs.map fun z=>[V.sc (pw z.1)]) [V.sc (pw b0)] i (by rw [List.length_map];omega) (by rw [List.length_map];omega) (Qya (fun z=>V.sc (pw z.1)) zs) (QCT (fun z=>z.1) zs) rfl (fun y hy=>by simp at hy;subst hy;rfl)
 have hins2:(zs.map fun z=>[V.sc (pw z.1)]).take i++[V.sc (pw b0)]::(zs.map fun z=>[V.sc (pw z.1)]).drop i=zs2.map fun z=>[V.sc (pw z.1)]:=by rw [hz2,Qno]
 rw [hins2] at ci
 refine sx_ ?_
 (repeat' ((fail_if_success (first | refine Qas 5 ?_ | refine Qay 5 ?_));(first | refine sp_ ?_ | exact ex0 | refine Qab Tryz.call141 (ci) [] ex1 ?_ | exact re0 [])))
 refine Qm0 hC (90,1) 48 i [49,37] [11] (pw b0) (zs2.map fun z=>(pw z.1,T.box (frT z.2))) ((zs2.map fun z=>(pw z.1,T.box (frT z.2))).set i (pw b0,.av .any)) (frT f) j1 rfl ⟨rfl,rfl⟩ ⟨ex0,?_⟩
 repeat' first | refine sp_ ?_ | exact ex0 | refine Qab Tryz.call74 ((ca (zs2.map fun z=>[V.sc (pw z.1)]))) [(1000,0),(48,0)] ex1 ?_ | exact re0 []
 refine ⟨⟨by omega,by rw [(List.getElem?_eq_some_iff.1 hb0).2]⟩,?_⟩
 refine QCg (1000,7) (90,1) (48,0) i 37 (pw b0) (.av .any) 175 ((zs2.map fun z=>(pw z.1,T.box (frT z.2))).set i (pw b0,.av .any)) (zs2.map fun z=>[V.sc (pw z.1)]) ((l'.map fun f=>[T.box (frT f)]).set i [.av .any]) j3 j4 (by rw [j5,hzl2]) ⟨ex0,?_⟩
 repeat' first | refine sp_ ?_ | exact ex0 | exact re0 [(48,0)]
end Go.Proofs.YthfocmakkeonoaaGreatDoor
