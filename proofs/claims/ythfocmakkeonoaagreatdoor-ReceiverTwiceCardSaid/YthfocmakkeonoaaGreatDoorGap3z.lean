/- Package gaps (layer 22): which are asked for; walked. -/
import Derived.Test.YthfocmakkeonoaaGreatDoorSplBz
set_option linter.unusedVariables false
set_option linter.unusedSimpArgs false
set_option maxRecDepth 100000
set_option maxHeartbeats 16000000
namespace Go.Proofs.YthfocmakkeonoaaGreatDoor
open Go.RowKit
theorem QoW (t now:Int):∀ a b:List Wt,Qdg t now (a++b)=((Qdg t now a).1++(Qdg t now b).1,(Qdg t now a).2.1++(Qdg t now b).2.1,(Qdg t now a).2.2+(Qdg t now b).2.2)
 | [],b=>by simp [Qdg]
 | w::a,b=>by
  rw [List.cons_append,Qdg,Qdg,QoW t now a b]
  dsimp only
  split
  ·cases Qoj t now w with
   | none=>dsimp only;congr 2;omega
   | some w'=>rfl
  ·rfl
theorem QhC (t now:Int):∀ a:List Wt,(Qdg t now a).1.length≤a.length∧(Qdg t now a).2.1.length≤a.length∧0≤(Qdg t now a).2.2∧(Qdg t now a).2.2≤a.length
 | []=>by simp [Qdg]
 | w::a=>by
  obtain ⟨h1,h2,h3,h4⟩:=QhC t now a
  rw [Qdg]
  (try dsimp only)
  split
  ·cases Qoj t now w with
   | none=>(try dsimp only);simp only [List.length_cons];omega
   | some w'=>(try dsimp only);simp only [List.length_cons];omega
  ·(try dsimp only);simp only [List.length_cons];omega
theorem QC7 (g:Gp) (now0:Int) (hl:g.l.length≤1024) (hww:∀ w∈g.l,0≤w.tr∧w.tr≤100∧0≤w.wt∧w.wt≤1048576) (hg:0≤g.gv∧g.gv≤1099511627000000) :
  Qan Tryz.prog 36 [.ptr 0 0,.ca (.val (vi now0))] [gpO g] (.ca (.val (.lst 1 ((Qwn g now0).2.map fun z:Int=>[vi z])))) [gpO (Qwn g now0).1]:=by
 obtain ⟨m,t,f,a,l,any,gr,gv⟩:=g
 dsimp only at hl hww hg
 have ct:=QtI now0
 have hn:0≤QcD now0∧QcD now0≤1099511627776:=by unfold QcD;omega
 unfold Qwn
 dsimp only
 generalize QcD now0=now at *
 refine Qaa Tryz.func36 rfl Tryz.ntmps36 Tryz.results36 ⟨by decide,by simp⟩ fun C hC=>?_
 (repeat' ((fail_if_success (first | refine Qas 4 ?_ | refine Qay 4 ?_));(first | refine sp_ ?_ | exact ex0 | refine Qab Tryz.call68 (ct) [] ex1 ?_ | exact re0 [])))
 refine Qij 5 (5,1) 3 1 ?_
 refine sx_ ?_
 refine QDY 6 (6,1) 173 4 (by decide) ?_
 refine sx_ ?_
 (repeat' ((fail_if_success (refine Qat 5 ?_));(first | refine sp_ ?_ | exact ex0 | exact re0 [])))
 refine QaD (α:={i:Nat // i≤l.length}) (fun i=>[(.o (1000,0),.num 8),(.c (1000,0) 0,.av (.val (vi m))),(.c (1000,0) 1,.av (.val (vi t))),(.c (1000,0) 2,.av (.val (vi f))),(.c (1000,0) 3,.av (.val (vi a))),(.c (1000,0) 4,.av (.val .any)),(.c (1000,0) 5,.av (.val (vb any))),(.c (1000,0) 6,.av (.val (vi gr))),(.c (1000,0) 7,.av (.val (vi (gv+(Qdg t now (l.take i.1)).2.2)))),(.r (1000,5),.tree (.rw 173 4 (l.map Qht))),(.s 0,.av (.ptr (1000,0) 0 0)),(.s 1,.av (.val (vi now))),(.k (5,1),.row 3 1 (Qdg t now (l.take i.1)).1.length),(.s 5,.av (.own (5,1) 0 3 1 ((Qdg t now (l.take i.1)).1.map fun z:Int=>[vi z]))),(.r (6,1),.tree (.rw 173 4 ((Qdg t now (l.take i.1)).2.1.map Qht))),(.s 6,.av (.ref (6,1) 0)),(.s 14,.av (.ref (1000,5) 0)),(.s 15,.av (.val (vi l.length))),(.s 16,.av (.val (vi i.1)))]) (fun i=>l.length-i.1) ⟨0,Nat.zero_le _⟩ ?_ (fun i=>?_)
 ·rw [List.take_zero]
  simp (decide:=true) (disch:=omega) only [go_sem,↓reduceIte,↓Qad]
  (try simp [Qdg])
 obtain ⟨i,hi⟩:=i
 dsimp only at hi ⊢
 by_cases hlt:i<l.length
 ·have hltz:(i:Int)<l.length:=by omega
  obtain ⟨q1,q2,q3,q4⟩:=QhC t now (l.take i)
  have htl:(l.take i).length=i:=by rw [List.length_take];omega
  rw [htl] at q1 q2 q4
  have hw:=hww _ (List.getElem_mem hlt)
  have htk:Qdg t now (l.take (i+1))=((Qdg t now (l.take i)).1++(Qdg t now [l[i]]).1,(Qdg t now (l.take i)).2.1++(Qdg t now [l[i]]).2.1,(Qdg t now (l.take i)).2.2+(Qdg t now [l[i]]).2.2):=by rw [List.take_succ_eq_append_getElem hlt,QoW]
  have ca:=QCN ⟨m,t,f,a,l,any,gr,gv+(Qdg t now (l.take i)).2.2⟩ l[i] now (by dsimp only;omega) hw hn
  generalize Qdg t now (l.take i)=D at *
  obtain ⟨o,left,cnt⟩:=D
  dsimp only at *
  by_cases hat:l[i].at'≤now
  ·cases hk:Qoj t now l[i] with
   | none=>
    have hd1:Qdg t now [l[i]]=([],[],1):=by simp [Qdg,hat,hk]
    rw [hk] at ca
    repeat' first | refine sp_ ?_ | exact ex0 | refine Qab Tryz.call86 (ca) [(1000,0),(8,0)] ex1 ?_ | (refine Qap [] ?_;simp (decide:=true) (disch:=omega) only [go_sem,↓reduceIte,↓Qad])
    rw [hd1] at htk
    refine Qau (α:={i:Nat // i≤l.length}) ⟨i+1,hlt⟩ ⟨?_,by (try dsimp only);omega⟩
    (try dsimp only)
    rw [htk]
    simp (decide:=true) (disch:=omega) only [go_sem,↓reduceIte,↓Qad]
    (try simp only [List.map_append,List.append_nil,List.length_append,List.length_singleton])
    (try first | rfl | omega | exact ⟨rfl,rfl⟩ | exact ⟨by omega,rfl⟩ | exact ⟨by omega,by rw [hkn];rfl,rfl⟩)
   | some w'=>
    have hd1:Qdg t now [l[i]]=([l[i].n],[w'],0):=by simp [Qdg,hat,hk]
    have hkn:w'.n=l[i].n:=by
     unfold Qoj at hk
     split at hk
     ·cases hk
     ·cases hk;rfl
    rw [hk] at ca
    repeat' first | refine sp_ ?_ | exact ex0 | refine Qab Tryz.call86 (ca) [(1000,0),(8,0)] ex1 ?_ | (refine Qap [] ?_;simp (decide:=true) (disch:=omega) only [go_sem,↓reduceIte,↓Qad])
    rw [hd1] at htk
    refine Qau (α:={i:Nat // i≤l.length}) ⟨i+1,hlt⟩ ⟨?_,by (try dsimp only);omega⟩
    (try dsimp only)
    rw [htk]
    simp (decide:=true) (disch:=omega) only [go_sem,↓reduceIte,↓Qad]
    (try simp only [List.map_append,List.append_nil,List.length_append,List.length_singleton])
    (try first | rfl | omega | exact ⟨rfl,rfl⟩ | exact ⟨by omega,rfl⟩ | exact ⟨by omega,by rw [hkn];rfl,rfl⟩)
  ·have hd1:Qdg t now [l[i]]=([],[l[i]],0):=by simp [Qdg,hat]
   repeat' first | refine sp_ ?_ | exact ex0 | (refine Qap [] ?_;simp (decide:=true) (disch:=omega) only [go_sem,↓reduceIte,↓Qad])
   rw [hd1] at htk
   refine Qau (α:={i:Nat // i≤l.length}) ⟨i+1,hlt⟩ ⟨?_,by (try dsimp only);omega⟩
   (try dsimp only)
   rw [htk]
   simp (decide:=true) (disch:=omega) only [go_sem,↓reduceIte,↓Qad]
   (try simp only [List.map_append,List.append_nil,List.length_append,List.length_singleton])
   (try first | rfl | omega | exact ⟨rfl,rfl⟩ | exact ⟨by omega,rfl⟩ | exact ⟨by omega,by rw [hkn];rfl,rfl⟩)
 ·obtain rfl:i=l.length:=by omega
  rw [List.take_length]
  repeat' first | refine sp_ ?_ | exact ex0 | exact re0 []
end Go.Proofs.YthfocmakkeonoaaGreatDoor
