/- Layer 12 (compound): order, Check; walked. -/
import Derived.Test.YthfocmakkeonoaaGreatDoorCmp2z
import Derived.Test.YthfocmakkeonoaaGreatDoorQCmp07z
import Derived.Test.YthfocmakkeonoaaGreatDoorRtp4z
import Derived.Test.YthfocmakkeonoaaGreatDoorNotes2z
set_option linter.unusedVariables false
set_option linter.unusedSimpArgs false
set_option maxRecDepth 100000
set_option maxHeartbeats 16000000
namespace Go.Proofs.YthfocmakkeonoaaGreatDoor
open Go.RowKit
structure Pcs (ps:List Pc):Prop where
 len:ps.length≤10000
 body:∀ p∈ps,p.2.2.length≤100000
theorem Pcs.max {ps:List Pc} (h:Pcs ps):∀ p∈ps,p.2.2.length≤maxLen:=fun p hp=>by have:=h.body p hp;unfold maxLen;omega
theorem Qxz (p:Pc):(Qa5 p).length≤32:=by
 unfold Qa5
 split
 ·unfold Qxq
  have hlen:∀ f x acc,(Qpa f x acc).length≤acc.length+f:=by
   intro f
   induction f with
   | zero=>intro x acc;simp [Qpa]
   | succ f ih=>
    intro x acc
    unfold Qpa
    split
    ·omega
    ·have:=ih (nxN x) (acc++[rdN x])
     simp only [List.length_append,List.length_cons,List.length_nil] at this
     omega
  have:=hlen 32 (p.2.2,0) []
  simpa using this
 ·simp
theorem Qer {α:Type} (f:Pc→List α) (n:Nat) (h:∀ p,(f p).length≤n):∀ ps:List Pc,(ps.flatMap f).length≤n * ps.length
 | []=>by simp
 | p::ps=>by
  rw [List.flatMap_cons,List.length_append,List.length_cons,Nat.mul_add,Nat.mul_one]
  have:=Qer f n h ps
  have:=h p
  omega
theorem QuS (ps:List Pc) (h:ps.length≤10000):(QaX ps).Few:=by
 rw [QuI]
 refine ⟨?_,?_,?_,?_,?_,?_,?_⟩
 ·have:=Qer (fun p=>if QcA p=1 then [ofR p] else []) 32 (fun p=>by (try dsimp only);split <;> simp) ps
  (try dsimp only);omega
 ·have:=Qer (fun p=>if QcA p=2 then Qa5 p else []) 32 (fun p=>by
   have:=Qxz p
   (try dsimp only);split
   ·exact this
   ·simp) ps
  (try dsimp only);omega
 ·have:=Qer (fun p=>if QcA p=3 then [QqV p] else []) 32 (fun p=>by (try dsimp only);split <;> simp) ps
  (try dsimp only);omega
 ·have:=Qer (fun p=>if QcA p=4∧(Qhf p).name≠Qjm then [Qhf p] else []) 32 (fun p=>by (try dsimp only);split <;> simp) ps
  (try dsimp only);omega
 ·have:=Qer (fun p=>if QcA p=5 then [QgT p] else []) 32 (fun p=>by (try dsimp only);split <;> simp) ps
  (try dsimp only);omega
 ·have:=Qer (fun p=>if QcA p=6 then [Qdx p] else []) 32 (fun p=>by (try dsimp only);split <;> simp) ps
  (try dsimp only);omega
 ·have:=Qer (fun p=>if QcA p=7 then [QqH p] else []) 32 (fun p=>by (try dsimp only);split <;> simp) ps
  (try dsimp only);omega
theorem Qpc (ps:List Pc) (j:Nat) (h:j<ps.length):QaX (ps.take (j+1))=QbI (QaX (ps.take j)) ps[j]:=by
 rw [List.take_succ_eq_append_getElem h,QqY]
theorem QuT (B:Bag12) (p:Pc):(QbI B p).byes.length=B.byes.length+(if QbR p=3 then 1 else 0):=by
 unfold QbI
 rw [List.length_append]
 congr 1
 rw [Qgi]
 by_cases h:QcA p=3
 ·simp [h]
 ·rw [if_neg h,if_neg (by split <;> omega)]
  rfl
theorem Qmv (p:Pc):(QbI QqX p).reports.length=if QbR p=1 then 1 else 0:=by
 show (([]:List R8)++(if QcA p=1 then [ofR p] else [])).length=_
 rw [List.nil_append,Qgi]
 by_cases h:QcA p=1
 ·simp [h]
 ·have h2:¬(if (QcA p=2∧Qa5 p=[])∨(QcA p=4∧(Qhf p).name=Qjm) then 0 else QcA p)=1:=by
   split
   ·omega
   ·exact h
  rw [if_neg h,if_neg h2]
  rfl
theorem QuU (ps:List Pc):(QaX ps).names.length=0↔∀ p∈ps,QbR p≠2:=by
 rw [QuI]
 dsimp only
 rw [List.length_eq_zero_iff,List.flatMap_eq_nil_iff]
 constructor
 ·intro h p hp h2
  have hs:=(Qxy (p:=p) (by omega))
  have:=h p hp
  rw [if_pos (by omega)] at this
  exact hs.2.2 (by omega) this
 ·intro h p hp
  split
  ·rename_i h2
   have:=h p hp
   rw [Qgi] at this
   by_cases hn:Qa5 p=[]
   ·exact hn
   ·rw [if_neg (by simp [h2,hn])] at this
    exact absurd h2 this
  ·rfl
theorem Qq3 (p:Pc):QbA p≠[]:=fun h=>by
 have:=Qdj p
 rw [h,List.length_nil] at this
 omega
theorem Qmw (ps:List Pc) (h:ps≠[]):Qcc ps=[]↔ps.all Qq6=false:=by
 unfold Qcc
 by_cases hm:ps.all Qq6=true
 ·rw [if_pos hm]
  obtain ⟨p,qs,rfl⟩:=List.exists_cons_of_ne_nil h
  rw [List.flatMap_cons]
  simp [Qq3 p,hm]
 ·rw [if_neg hm]
  simp at hm ⊢
  simpa using hm
theorem Qpd (ps:List Pc) (h:∀ p∈ps,p.2.2.length≤100000):(Qcc ps).length≤100004 * ps.length:=by
 have key:∀ qs:List Pc,(∀ p∈qs,p.2.2.length≤100000)→(qs.flatMap QbA).length≤100004 * qs.length:=by
  intro qs
  induction qs with
  | nil=>intro _;simp
  | cons q qs ih=>
   intro hq
   have h1:=ih fun p hp=>hq p (by simp [hp])
   have h2:=hq q (by simp)
   rw [List.flatMap_cons,List.length_append,Qdj,List.length_cons]
   omega
 unfold Qcc
 split
 ·exact key ps h
 ·simp
theorem Qpe:QaX []=QqX:=rfl
theorem QuV (ps:List Pc) (h:Pcs ps):∃ b,(b=true↔QdN ps)∧Qan Tryz.prog 159 [.ca (.val (.lst 3 (ps.map Qfo)))] [] (.ca (.val (vb b))) []:=by
 classical
 have hb:=h.max
 obtain ⟨hl,hb0⟩:=h
 have cp:=QeM ps hb (by omega)
 obtain ⟨b,hbf⟩:∃ b:Bool,(b=true↔QdN ps):=⟨decide (QdN ps),by simp⟩
 refine ⟨b,hbf,?_⟩
 have hno:¬QdN ps→b=false:=fun h=>by cases b with | false=>rfl | true=>exact absurd (hbf.1 rfl) h
 have hyes:QdN ps→b=true:=fun h=>hbf.2 h
 clear hbf
 by_cases h0:ps.length=0
 ·obtain rfl:=hno fun h=>h.1 (List.length_eq_zero_iff.1 h0)
  refine Qaa Tryz.func159 rfl Tryz.ntmps159 Tryz.results159 ⟨by decide,by simp⟩ fun C hC=>?_
  repeat' first | refine sp_ ?_ | exact ex0 | refine Qab Tryz.call100 (cp) [] ex1 ?_ | exact re0 []
 have hne:ps≠[]:=fun h=>h0 (by rw [h];rfl)
 by_cases hm:ps.all Qq6=true
 ·have hpk:Qcc ps≠[]:=fun h=>by rw [(Qmw ps hne).1 h] at hm;cases hm
  have hpk2:0<(Qcc ps).length:=List.length_pos_iff.2 hpk
  have hbe:(Qcc ps == ([]:List UInt8))=false:=by simpa using hpk
  generalize Qcc ps=P at *
  refine Qaa Tryz.func159 rfl Tryz.ntmps159 Tryz.results159 ⟨by decide,by simp⟩ fun C hC=>?_
  repeat' first | refine sp_ ?_ | exact ex0 | refine Qab Tryz.call100 (cp) [] ex1 ?_ | exact re0 []
  simp only [hbe]
  (repeat' ((fail_if_success (first | refine Qas 4 ?_ | refine Qay 4 ?_));(first | refine sp_ ?_ | exact ex0 | exact re0 [])))
  refine Qb2 (3,0) 0 (3,1) 122 7 ?_
  refine sx_ ?_
  refine Qb2 (3,0) 1 (3,2) 126 2 ?_
  refine sx_ ?_
  refine Qb2 (3,0) 2 (3,3) 319 2 ?_
  refine sx_ ?_
  refine Qb2 (3,0) 3 (3,4) 208 4 ?_
  refine sx_ ?_
  refine Qb2 (3,0) 4 (3,5) 214 3 ?_
  refine sx_ ?_
  refine Qb2 (3,0) 5 (3,6) 192 2 ?_
  refine sx_ ?_
  refine Qb2 (3,0) 6 (3,7) 204 2 ?_
  refine sx_ ?_
  (repeat' ((fail_if_success (refine Qat 5 ?_));(first | refine sp_ ?_ | exact ex0 | exact re0 [])))
  refine QaD (α:={j:Nat // j≤ps.length∧∀ i,i<j→¬Qjn ps i}) (fun j=>[(.s 0,.av (.val (.lst 3 (ps.map Qfo)))),(.s 3,.av (.ptr (3,0) 0 0)),(.o (3,0),.num 7),(.c (3,0) 0,.av (.own (3,1) 0 122 7 ((QaX (ps.take j.1)).reports.map QhF))),(.k (3,1),.row 122 7 (QaX (ps.take j.1)).reports.length),(.c (3,0) 1,.av (.own (3,2) 0 126 2 ((QaX (ps.take j.1)).names.map Qe3))),(.k (3,2),.row 126 2 (QaX (ps.take j.1)).names.length),(.c (3,0) 2,.av (.own (3,3) 0 319 2 ((QaX (ps.take j.1)).byes.map QhG))),(.k (3,3),.row 319 2 (QaX (ps.take j.1)).byes.length),(.c (3,0) 3,.av (.own (3,4) 0 208 4 ((QaX (ps.take j.1)).apps.map QhH))),(.k (3,4),.row 208 4 (QaX (ps.take j.1)).apps.length),(.c (3,0) 4,.av (.own (3,5) 0 214 3 ((QaX (ps.take j.1)).nacks.map QcM))),(.k (3,5),.row 214 3 (QaX (ps.take j.1)).nacks.length),(.c (3,0) 5,.av (.own (3,6) 0 192 2 ((QaX (ps.take j.1)).lines.map QcN))),(.k (3,6),.row 192 2 (QaX (ps.take j.1)).lines.length),(.c (3,0) 6,.av (.own (3,7) 0 204 2 ((QaX (ps.take j.1)).ads.map QcO))),(.k (3,7),.row 204 2 (QaX (ps.take j.1)).ads.length),(.s 15,.av (.val (.lst 3 (ps.map Qfo)))),(.s 16,.av (.val (vi ps.length))),(.s 17,.av (.val (vi j.1)))]) (fun j=>ps.length-j.1) ⟨0,Nat.zero_le _,fun i h=>by omega⟩ ?_ (fun j=>?_)
  ·(try dsimp only)
   rw [List.take_zero,Qpe]
   unfold QqX
   exact ex0
  ·obtain ⟨j,hj,hg⟩:=j
   dsimp only at hj hg ⊢
   by_cases hlt:j<ps.length
   ·have hge:(ps.map Qfo).getD j []=Qfo ps[j]:=by simp [hlt]
    have c:=Qpb (QaX (ps.take j)) ps[j] (hb _ (List.getElem_mem hlt)) (QuS _ (by rw [List.length_take];omega))
    have hnx:=Qpc ps j hlt
    have hby:=QuT (QaX (ps.take j)) ps[j]
    have hre:j=0→(QbI (QaX (ps.take j)) ps[j]).reports.length=if QbR ps[j]=1 then 1 else 0:=fun h=>by
     have e:QaX (ps.take j)=QqX:=by rw [h,List.take_zero];rfl
     rw [e]
     exact Qmv _
    have hgn:¬Qjn ps j→∀ i,i<j+1→¬Qjn ps i:=fun h i hi=>by
     rcases Nat.lt_succ_iff_lt_or_eq.1 hi with h2 | rfl
     ·exact hg i h2
     ·exact h
    have hbd:Qjn ps j↔(j=0∧QbR ps[j]≠1)∨(QbR ps[j]=3∧j+1<ps.length):=⟨fun ⟨_,h⟩=>h,fun h=>⟨hlt,h⟩⟩
    have hnf:Qjn ps j→b=false:=fun h=>hno fun hf=>hf.2.2.1 j h
    clear hno hyes
    generalize QbI (QaX (ps.take j)) ps[j]=B2 at *
    generalize QaX (ps.take j)=B at *
    generalize QbR ps[j]=w at *
    by_cases hj0:j=0
    ·have hre':=hre hj0
     by_cases w1:w=1
     ·rw [if_pos w1] at hre'
      rw [if_neg (by omega)] at hby
      have hg2:=hgn (by rw [hbd];omega)
      clear hre
      repeat' first | refine sp_ ?_ | exact ex0 | refine Qab Tryz.call160 (c) [(3,0)] ex1 ?_ | exact re0 []
      refine Qau (α:={j:Nat // j≤ps.length∧∀ i,i<j→¬Qjn ps i}) ⟨j+1,hlt,hg2⟩ ⟨?_,by (try dsimp only);omega⟩
      (try dsimp only)
      rw [hnx]
      exact ex0
     ·rw [if_neg w1] at hre'
      obtain rfl:=hnf (by rw [hbd];omega)
      clear hre
      repeat' first | refine sp_ ?_ | exact ex0 | refine Qab Tryz.call160 (c) [(3,0)] ex1 ?_ | exact re0 []
    ·clear hre
     by_cases w3:w=3
     ·rw [if_pos w3] at hby
      by_cases hla:j+1<ps.length
      ·obtain rfl:=hnf (by rw [hbd];omega)
       repeat' first | refine sp_ ?_ | exact ex0 | refine Qab Tryz.call160 (c) [(3,0)] ex1 ?_ | exact re0 []
      ·have hg2:=hgn (by rw [hbd];omega)
       repeat' first | refine sp_ ?_ | exact ex0 | refine Qab Tryz.call160 (c) [(3,0)] ex1 ?_ | exact re0 []
       refine Qau (α:={j:Nat // j≤ps.length∧∀ i,i<j→¬Qjn ps i}) ⟨j+1,hlt,hg2⟩ ⟨?_,by (try dsimp only);omega⟩
       (try dsimp only)
       rw [hnx]
       exact ex0
     ·rw [if_neg w3] at hby
      have hg2:=hgn (by rw [hbd];omega)
      repeat' first | refine sp_ ?_ | exact ex0 | refine Qab Tryz.call160 (c) [(3,0)] ex1 ?_ | exact re0 []
      refine Qau (α:={j:Nat // j≤ps.length∧∀ i,i<j→¬Qjn ps i}) ⟨j+1,hlt,hg2⟩ ⟨?_,by (try dsimp only);omega⟩
      (try dsimp only)
      rw [hnx]
      exact ex0
   ·obtain rfl:j=ps.length:=by omega
    have hbn:=QuU ps
    have hgood:∀ i,¬Qjn ps i:=fun i hi=>by
     by_cases h:i<ps.length
     ·exact hg i h hi
     ·exact h hi.1
    simp only [List.take_length]
    by_cases hn:(QaX ps).names.length=0
    ·obtain rfl:=hno fun hf=>by
      obtain ⟨p,hp,hw⟩:=hf.2.2.2
      exact hbn.1 hn p hp hw
     repeat' first | refine sp_ ?_ | exact ex0 | exact re0 []
    ·obtain rfl:=hyes ⟨hne,hm,hgood,by
      refine Classical.byContradiction fun hx=>hn (hbn.2 fun p hp hw=>hx ⟨p,hp,hw⟩)⟩
     have hn2:0<(QaX ps).names.length:=by omega
     repeat' first | refine sp_ ?_ | exact ex0 | exact re0 []
 ·have hpk:Qcc ps=[]:=(Qmw ps hne).2 (by simpa using hm)
  rw [hpk] at cp
  obtain rfl:=hno fun h=>hm h.2.1
  refine Qaa Tryz.func159 rfl Tryz.ntmps159 Tryz.results159 ⟨by decide,by simp⟩ fun C hC=>?_
  repeat' first | refine sp_ ?_ | exact ex0 | refine Qab Tryz.call100 (cp) [] ex1 ?_ | exact re0 []
theorem QuW (ps:List Pc) (h:Pcs ps):Qan Tryz.prog 99 [.ca (.val (.lst 3 (ps.map Qfo)))] [] (.ca (.val (vi (Qyp ps)))) []:=by
 classical
 obtain ⟨b,hbf,co⟩:=QuV ps h
 have hb:=h.max
 obtain ⟨hl,hb0⟩:=h
 cases b with
 | false=>
  rw [QuJ (fun h=>by have:=hbf.2 h;cases this)]
  refine Qaa Tryz.func99 rfl Tryz.ntmps99 Tryz.results99 ⟨by decide,by simp⟩ fun C hC=>?_
  repeat' first | refine sp_ ?_ | exact ex0 | refine Qab Tryz.call159 (co) [] ex1 ?_ | exact re0 []
 | true=>
  have hf:=hbf.1 rfl
  have cp:=QeM ps hb (by omega)
  obtain ⟨E,hE⟩:∃ E,E=Qyp ps:=⟨_,rfl⟩
  rw [←hE]
  unfold Qyp at hE
  rw [if_neg (fun h=>h hf)] at hE
  refine Qaa Tryz.func99 rfl Tryz.ntmps99 Tryz.results99 ⟨by decide,by simp⟩ fun C hC=>?_
  (repeat' ((fail_if_success (first | refine Qas 4 ?_ | refine Qay 4 ?_));(first | refine sp_ ?_ | exact ex0 | refine Qab Tryz.call159 (co) [] ex1 ?_ | exact re0 [])))
  refine Qb2 (3,0) 0 (3,1) 122 7 ?_
  refine sx_ ?_
  refine Qb2 (3,0) 1 (3,2) 126 2 ?_
  refine sx_ ?_
  refine Qb2 (3,0) 2 (3,3) 319 2 ?_
  refine sx_ ?_
  refine Qb2 (3,0) 3 (3,4) 208 4 ?_
  refine sx_ ?_
  refine Qb2 (3,0) 4 (3,5) 214 3 ?_
  refine sx_ ?_
  refine Qb2 (3,0) 5 (3,6) 192 2 ?_
  refine sx_ ?_
  refine Qb2 (3,0) 6 (3,7) 204 2 ?_
  refine sx_ ?_
  (repeat' ((fail_if_success (refine Qat 5 ?_));(first | refine sp_ ?_ | exact ex0 | exact re0 [])))
  refine QaD (α:={j:Nat // j≤ps.length∧∀ i (h:i<ps.length),i<j→QbR ps[i]≠0}) (fun j=>[(.s 0,.av (.val (.lst 3 (ps.map Qfo)))),(.s 3,.av (.ptr (3,0) 0 0)),(.o (3,0),.num 7),(.c (3,0) 0,.av (.own (3,1) 0 122 7 ((QaX (ps.take j.1)).reports.map QhF))),(.k (3,1),.row 122 7 (QaX (ps.take j.1)).reports.length),(.c (3,0) 1,.av (.own (3,2) 0 126 2 ((QaX (ps.take j.1)).names.map Qe3))),(.k (3,2),.row 126 2 (QaX (ps.take j.1)).names.length),(.c (3,0) 2,.av (.own (3,3) 0 319 2 ((QaX (ps.take j.1)).byes.map QhG))),(.k (3,3),.row 319 2 (QaX (ps.take j.1)).byes.length),(.c (3,0) 3,.av (.own (3,4) 0 208 4 ((QaX (ps.take j.1)).apps.map QhH))),(.k (3,4),.row 208 4 (QaX (ps.take j.1)).apps.length),(.c (3,0) 4,.av (.own (3,5) 0 214 3 ((QaX (ps.take j.1)).nacks.map QcM))),(.k (3,5),.row 214 3 (QaX (ps.take j.1)).nacks.length),(.c (3,0) 5,.av (.own (3,6) 0 192 2 ((QaX (ps.take j.1)).lines.map QcN))),(.k (3,6),.row 192 2 (QaX (ps.take j.1)).lines.length),(.c (3,0) 6,.av (.own (3,7) 0 204 2 ((QaX (ps.take j.1)).ads.map QcO))),(.k (3,7),.row 204 2 (QaX (ps.take j.1)).ads.length),(.s 9,.av (.val (.lst 3 (ps.map Qfo)))),(.s 10,.av (.val (vi ps.length))),(.s 11,.av (.val (vi j.1)))]) (fun j=>ps.length-j.1) ⟨0,Nat.zero_le _,fun i _ h=>by omega⟩ ?_ (fun j=>?_)
  ·(try dsimp only)
   rw [List.take_zero,Qpe]
   unfold QqX
   exact ex0
  ·obtain ⟨j,hj,hg⟩:=j
   dsimp only at hj hg ⊢
   by_cases hlt:j<ps.length
   ·have hge:(ps.map Qfo).getD j []=Qfo ps[j]:=by simp [hlt]
    have c:=Qpb (QaX (ps.take j)) ps[j] (hb _ (List.getElem_mem hlt)) (QuS _ (by rw [List.length_take];omega))
    have hnx:=Qpc ps j hlt
    by_cases hw:QbR ps[j]=0
    ·rw [if_pos ⟨_,List.getElem_mem hlt,hw⟩] at hE
     subst hE
     rw [decide_eq_false (fun h=>h hw)] at c
     generalize QbI (QaX (ps.take j)) ps[j]=B2 at *
     generalize QaX (ps.take j)=B at *
     repeat' first | refine sp_ ?_ | exact ex0 | refine Qab Tryz.call160 (c) [(3,0)] ex1 ?_ | exact re0 []
    ·have hg2:∀ i (h:i<ps.length),i<j+1→QbR ps[i]≠0:=fun i h hi=>by
      rcases Nat.lt_succ_iff_lt_or_eq.1 hi with h2 | rfl
      ·exact hg i h h2
      ·exact hw
     rw [decide_eq_true hw] at c
     generalize QbI (QaX (ps.take j)) ps[j]=B2 at *
     generalize QaX (ps.take j)=B at *
     repeat' first | refine sp_ ?_ | exact ex0 | refine Qab Tryz.call160 (c) [(3,0)] ex1 ?_ | exact re0 []
     refine Qau (α:={j:Nat // j≤ps.length∧∀ i (h:i<ps.length),i<j→QbR ps[i]≠0}) ⟨j+1,hlt,hg2⟩ ⟨?_,by (try dsimp only);omega⟩
     (try dsimp only)
     rw [hnx]
     exact ex0
   ·have hall:¬∃ p∈ps,QbR p=0:=fun ⟨p,hp,hw⟩=>by
     obtain ⟨i,hi,rfl⟩:=List.mem_iff_getElem.1 hp
     exact hg i hi (by omega) hw
    rw [if_neg hall] at hE
    have hple:=Qpd ps hb0
    by_cases hbig:1500<(Qcc ps).length+16
    ·rw [if_pos hbig] at hE
     subst hE
     generalize Qcc ps=P at *
     repeat' first | refine sp_ ?_ | exact ex0 | refine Qab Tryz.call100 (cp) [] ex1 ?_ | exact re0 []
    ·rw [if_neg hbig] at hE
     subst hE
     generalize Qcc ps=P at *
     repeat' first | refine sp_ ?_ | exact ex0 | refine Qab Tryz.call100 (cp) [] ex1 ?_ | exact re0 []
end Go.Proofs.YthfocmakkeonoaaGreatDoor
namespace Go.Proofs.YthfocmakkeonoaaGreatDoor
open Go.RowKit
end Go.Proofs.YthfocmakkeonoaaGreatDoor
namespace Go.Proofs.YthfocmakkeonoaaGreatDoor
open Go.RowKit
end Go.Proofs.YthfocmakkeonoaaGreatDoor
namespace Go.Proofs.YthfocmakkeonoaaGreatDoor
open Go.RowKit
end Go.Proofs.YthfocmakkeonoaaGreatDoor
namespace Go.Proofs.YthfocmakkeonoaaGreatDoor
open Go.RowKit
end Go.Proofs.YthfocmakkeonoaaGreatDoor
namespace Go.Proofs.YthfocmakkeonoaaGreatDoor
open Go.RowKit
theorem QxA (d:List UInt8) (hd:d.length=4):Qq8 ⟨0,0,Qjm,d⟩=Qyq d:=by
 rw [Qo7 ⟨0,0,Qjm,d⟩ ⟨by dsimp only;omega,by dsimp only;omega,rfl,by dsimp only;omega,by dsimp only;omega⟩]
 have:Qah 4 [0]=[0,0,0,0]:=by decide
 dsimp only
 rw [this]
 rfl
theorem Qpf (ps:List Pc) (h:Pcs ps):Qan Tryz.prog 41 [.ca (.val (.lst 3 (ps.map Qfo)))] [] (.ca (.val (vs (Qxx ps)))) []:=by
 have c1:=QuW ps h
 have c2:=QeM ps h.max (by have:=h.len;omega)
 have hple:=Qpd ps h.body
 have hl:=h.len
 unfold Qxx
 by_cases h0:Qyp ps=0
 ·rw [if_pos h0]
  rw [h0] at c1
  have c3:=Qmt ⟨0,0,Qjm,[0,0,0,0]⟩ ⟨by decide,by decide,by decide⟩
  have c4:=QeM [Qyq [0,0,0,0]] (fun p hp=>by simp only [List.mem_cons,List.not_mem_nil,or_false] at hp;subst hp;decide) (by decide)
  have e4:Qcc [Qyq [0,0,0,0]]=QuP++[0,0,0,0]:=by
   unfold Qcc
   rw [if_pos (by simp [Qxv])]
   simp only [List.flatMap_cons,List.flatMap_nil,List.append_nil]
   exact QnL _ rfl
  rw [e4] at c4
  have e3:Qq8 ⟨0,0,Qjm,[0,0,0,0]⟩=Qyq [0,0,0,0]:=QxA _ rfl
  have hS:QuP.length=12:=rfl
  rw [e3] at c3
  have c5:=QoF (Qcc ps++(QuP++[0,0,0,0])) (((Qcc ps++(QuP++[0,0,0,0])).length:Int)-4) (by rw [List.length_append];simp [QuP];omega)
  have e5:=Qxw (Qcc ps++QuP) [0,0,0,0] rfl
  rw [List.append_assoc] at e5
  rw [e5] at c5
  have e6:((Qcc ps++(QuP++[0,0,0,0])).length:Int)=(Qcc ps).length+16:=by rw [List.length_append];simp [QuP]
  rw [e6] at c5
  generalize Qf4 (Qcc ps++QuP) []=T at *
  generalize Qcc ps=P at *
  clear e4 e3 e5
  refine Qaa Tryz.func41 rfl Tryz.ntmps41 Tryz.results41 ⟨by decide,by simp⟩ fun C hC=>?_
  repeat' first | refine sp_ ?_ | exact ex0 | refine Qab Tryz.call99 (c1) [] ex1 ?_ | refine Qab Tryz.call100 (c2) [] ex1 ?_ | refine Qab Tryz.call101 (c3) [] ex1 ?_ | refine Qab Tryz.call100 (c4) [] ex1 ?_ | refine Qab Tryz.call23 (c5) [] ex1 ?_ | exact re0 []
 ·rw [if_neg h0]
  generalize Qyp ps=E at *
  refine Qaa Tryz.func41 rfl Tryz.ntmps41 Tryz.results41 ⟨by decide,by simp⟩ fun C hC=>?_
  repeat' first | refine sp_ ?_ | exact ex0 | refine Qab Tryz.call99 (c1) [] ex1 ?_ | exact re0 []
theorem Pcs.sub {ps qs:List Pc} (h:Pcs ps) (hs:qs.length≤ps.length) (hm:∀ p∈qs,p∈ps):Pcs qs:=⟨Nat.le_trans hs h.len,fun p hp=>h.body p (hm p hp)⟩
end Go.Proofs.YthfocmakkeonoaaGreatDoor
