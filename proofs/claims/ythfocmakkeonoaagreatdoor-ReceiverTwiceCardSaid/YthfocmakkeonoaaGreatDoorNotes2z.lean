/- Package receiver (layer 27): what is said of the sender, what is asked for; walked. -/
import Derived.Test.YthfocmakkeonoaaGreatDoorRcv1z
import Derived.Test.YthfocmakkeonoaaGreatDoorNack2z
import Derived.Test.YthfocmakkeonoaaGreatDoorQCmp07z
import Derived.Test.YthfocmakkeonoaaGreatDoorQCmp07z
import Derived.Test.YthfocmakkeonoaaGreatDoorQCmp07z
import Derived.Test.YthfocmakkeonoaaGreatDoorMedia2z
import Derived.Test.YthfocmakkeonoaaGreatDoorRCz
import Derived.Test.YthfocmakkeonoaaGreatDoorRLz
import Derived.Test.YthfocmakkeonoaaGreatDoorRtp4z
import Derived.Test.YthfocmakkeonoaaGreatDoorQInz
import Derived.Test.YthfocmakkeonoaaGreatDoorShelfz
set_option linter.unusedVariables false
set_option linter.unusedSimpArgs false
set_option maxRecDepth 100000
set_option maxHeartbeats 16000000
namespace Go.Proofs.YthfocmakkeonoaaGreatDoor
open Go.RowKit
abbrev rxV (x:Rx):List V:=[vu x.c.src,vu x.c.ab,vs x.c.nm,vi x.c.b1,vi x.c.b2,vi x.c.b3,vi x.c.g1,vi x.c.g2,vi x.c.g3,vi x.c.g4,vi x.c.lo,vi x.c.hi,vi x.c.ev,vi x.c.pt,.any,.any,.any,vb x.any,vi x.gr,.any,.any,vi x.dl.lo,vi x.dl.hi,vi x.dl.now,vi x.due,vb x.gone,vi x.ct.md,vi x.ct.bd,vi x.ct.fo,vi x.ct.la,vi x.ct.tw,vi x.ct.rp]
theorem Qxj (c:RC):Qan Tryz.prog 35 [.ca (.val (.agg (rcL c)))] [] (.ca (.val (vi (Qb3 ⟨c.lo,c.hi,c.lo⟩).hi))) []:=by
 have cd:=QxY c.lo c.hi
 generalize Qb3 ⟨c.lo,c.hi,c.lo⟩=d at *
 obtain ⟨lo,hi,now⟩:=d
 (try dsimp only at *)
 refine Qaa Tryz.func35 rfl Tryz.ntmps35 Tryz.results35 ⟨by decide,by simp⟩ fun C hC=>?_
 repeat' first | refine sp_ ?_ | exact ex0 | refine Qab Tryz.call16 (cd) [] ex1 ?_ | exact re0 []
 refine QB9 3 1 _ [vi lo,vi hi,vi now] (vi hi) (by kernel_rfl) ti3 ex0 rfl ?_
 repeat' first | refine sp_ ?_ | exact ex0 | exact re0 []
def Qvc (x:Rx):List B8:=if x.any=true then [⟨x.c.ab,0,0,x.gr % 4294967296,x.dl.now % 4294967296,0,0⟩] else []
theorem QFC (n:Int):IntKind.u32.wrap n=n % 4294967296:=by simp [IntKind.wrap,IntKind.bits,IntKind.signed]
theorem Quz (x:Rx):Qan Tryz.prog 37 [.ptr 0 0] [rxO x] (.ca (.val (.lst 7 ((Qvc x).map Qvb)))) [rxO x]:=by
 have e1:=QFC x.gr
 have e2:=QFC x.dl.now
 unfold Qvc
 obtain ⟨c,tb,fl,kp,any,gr,gp,fr,dl,due,gone,ct⟩:=x
 dsimp only at *
 cases any with
 | false=>
  refine Qaa Tryz.func37 rfl Tryz.ntmps37 Tryz.results37 ⟨by decide,by simp⟩ fun C hC=>?_
  repeat' first | refine sp_ ?_ | exact ex0 | exact re0 []
 | true=>
  refine Qaa Tryz.func37 rfl Tryz.ntmps37 Tryz.results37 ⟨by decide,by simp⟩ fun C hC=>?_
  repeat' first | refine sp_ ?_ | exact ex0 | (refine Qap [] ?_;simp (decide:=true) (disch:=omega) only [go_sem,↓reduceIte,↓Qad])
  (try simp only [e1,e2])
  repeat' first | refine sp_ ?_ | exact ex0 | exact re0 []
def QA9 (x:Rx) (due:List Int):List Pc:=
 let p:=QqG ⟨x.c.src,x.c.ab,QdM (due.map fun n=>n % 65536)⟩
 if p=(0,0,[]) then [] else [p]
theorem QDf (src ab:Int) (due:List Int) (h1:0≤src∧src<4294967296) (h2:0≤ab∧ab<4294967296):N10.Ok ⟨src,ab,QdM (due.map fun n=>n % 65536)⟩:=by
 have hz:∀ n∈due.map (fun n=>n % 65536),0≤n∧n≤65535:=fun n hn=>by
  obtain ⟨z,_,rfl⟩:=List.mem_map.1 hn
  exact ⟨Int.emod_nonneg _ (by decide),by have:=Int.emod_lt_of_pos z (show (0:Int)<65536 by decide);omega⟩
 have h:=Qmn (Qcr (due.map fun n=>n % 65536)).length _ (QAy _ hz)
 exact ⟨h1,h2,fun p hp=>by have:=h p hp;omega⟩
theorem QuA (x:Rx) (due:List Int) (hl:due.length≤1024) (h1:0≤x.c.src∧x.c.src<4294967296) (h2:0≤x.c.ab∧x.c.ab<4294967296) :
  Qan Tryz.prog 43 [.ptr 0 0,.ca (.val (.lst 1 (due.map fun z:Int=>[vi z])))] [rxO x] (.ca (.val (.lst 3 ((QA9 x due).map Qfo)))) [rxO x]:=by
 have hd16:=QkO (due.map fun n=>n % 65536)
 have hpl:=QjU (Qcr (due.map fun n=>n % 65536)).length (Qcr (due.map fun n=>n % 65536))
 rw [List.length_map] at hd16
 have hok:=QDf x.c.src x.c.ab due h1 h2
 have ca:=Qxe x.c.src x.c.ab (due.map fun n=>n % 65536) (by rw [List.length_map];omega)
 have cp:=QqN ⟨x.c.src,x.c.ab,QdM (due.map fun n=>n % 65536)⟩ hok (by unfold QdM maxLen;dsimp only;omega)
 unfold QA9
 dsimp only
 generalize QdM (due.map fun n=>n % 65536)=ps at *
 generalize QqG ⟨x.c.src,x.c.ab,ps⟩=p at *
 clear hok hpl hd16
 obtain ⟨A,hA0⟩:∃ A,A=(if p=(0,0,[]) then [] else [p]):=⟨_,rfl⟩
 rw [←hA0]
 obtain ⟨c,tb,fl,kp,any,gr,gp,fr,dl,due',gone,ct⟩:=x
 obtain ⟨a,k,b⟩:=p
 dsimp only at *
 refine Qaa Tryz.func43 rfl Tryz.ntmps43 Tryz.results43 ⟨by decide,by simp⟩ fun C hC=>?_
 (repeat' ((fail_if_success (first | refine Qas 2 ?_ | refine Qay 2 ?_));(first | refine sp_ ?_ | exact ex0 | exact re0 [])))
 refine Qij 5 (5,1) 40 1 ?_
 refine sx_ ?_
 (repeat' ((fail_if_success (refine Qat 3 ?_));(first | refine sp_ ?_ | exact ex0 | exact re0 [])))
 refine QaD (α:={i:Nat // i≤due.length}) (fun i=>[(.o (1000,0),.num 32),(.c (1000,0) 0,.av (.val (vu c.src))),(.c (1000,0) 1,.av (.val (vu c.ab))),(.c (1000,0) 2,.av (.val (vs c.nm))),(.c (1000,0) 3,.av (.val (vi c.b1))),(.c (1000,0) 4,.av (.val (vi c.b2))),(.c (1000,0) 5,.av (.val (vi c.b3))),(.c (1000,0) 6,.av (.val (vi c.g1))),(.c (1000,0) 7,.av (.val (vi c.g2))),(.c (1000,0) 8,.av (.val (vi c.g3))),(.c (1000,0) 9,.av (.val (vi c.g4))),(.c (1000,0) 10,.av (.val (vi c.lo))),(.c (1000,0) 11,.av (.val (vi c.hi))),(.c (1000,0) 12,.av (.val (vi c.ev))),(.c (1000,0) 13,.av (.val (vi c.pt))),(.c (1000,0) 14,.av (.ptr (1000,15) 0 0)),(.r (1000,15),.tree (.box (tbT tb))),(.c (1000,0) 15,.av (.ref (1000,16) 0)),(.r (1000,16),.tree (flM fl)),(.c (1000,0) 16,.av (.ref (1000,17) 0)),(.r (1000,17),.tree (kpM kp)),(.c (1000,0) 17,.av (.val (vb any))),(.c (1000,0) 18,.av (.val (vi gr))),(.c (1000,0) 19,.av (.ptr (1000,20) 0 0)),(.r (1000,20),.tree (.box (gpT gp))),(.c (1000,0) 20,.av (.ptr (1000,21) 0 0)),(.r (1000,21),.tree (.box (QcL fr))),(.c (1000,0) 21,.av (.val (vi dl.lo))),(.c (1000,0) 22,.av (.val (vi dl.hi))),(.c (1000,0) 23,.av (.val (vi dl.now))),(.c (1000,0) 24,.av (.val (vi due'))),(.c (1000,0) 25,.av (.val (vb gone))),(.c (1000,0) 26,.av (.val (vi ct.md))),(.c (1000,0) 27,.av (.val (vi ct.bd))),(.c (1000,0) 28,.av (.val (vi ct.fo))),(.c (1000,0) 29,.av (.val (vi ct.la))),(.c (1000,0) 30,.av (.val (vi ct.tw))),(.c (1000,0) 31,.av (.val (vi ct.rp))),(.s 0,.av (.ptr (1000,0) 0 0)),(.s 4,.av (.val (.sc (.slice none 0 0)))),(.k (5,1),.row 40 1 (((due.take i.1).map fun n=>n % 65536).map hEl).length),(.s 5,.av (.own (5,1) 0 40 1 (((due.take i.1).map fun n=>n % 65536).map hEl))),(.s 9,.av (.val (.lst 1 (due.map fun z:Int=>[vi z])))),(.s 10,.av (.val (vi due.length))),(.s 11,.av (.val (vi i.1)))]) (fun i=>due.length-i.1) ⟨0,Nat.zero_le _⟩ ?_ (fun i=>?_)
 ·simp (decide:=true) (disch:=omega) only [go_sem,↓reduceIte,↓Qad]
  (try first | rfl | exact ⟨rfl,rfl⟩)
 obtain ⟨i,hi⟩:=i
 dsimp only at hi ⊢
 by_cases hlt:i<due.length
 ·have hltz:(i:Int)<due.length:=by omega
  have e1:=Qzw due[i]
  have e2:((due.take (i+1)).map fun n=>n % 65536).map hEl=((due.take i).map fun n=>n % 65536).map hEl++[[vh (due[i] % 65536)]]:=by
   rw [List.take_succ_eq_append_getElem hlt,List.map_append,List.map_append];rfl
  have e3:(((due.take i).map fun n=>n % 65536).map hEl).length=i:=by rw [List.length_map,List.length_map,List.length_take];omega
  generalize ((due.take i).map fun n=>n % 65536).map hEl=L at *
  repeat' first | refine sp_ ?_ | exact ex0 | (refine Qap [] ?_;simp (decide:=true) (disch:=omega) only [go_sem,↓reduceIte,↓Qad])
  (try simp only [e1])
  repeat' first | refine sp_ ?_ | exact ex0 | exact re0 []
  refine Qau (α:={i:Nat // i≤due.length}) ⟨i+1,hlt⟩ ⟨?_,by (try dsimp only);omega⟩
  (try dsimp only)
  rw [e2]
  simp (decide:=true) (disch:=omega) only [go_sem,↓reduceIte,↓Qad]
  (try simp)
  (try first | rfl | omega | exact ⟨rfl,rfl⟩ | exact ⟨by omega,by omega⟩)
 ·obtain rfl:i=due.length:=by omega
  rw [List.take_length]
  have hA:=QFe a 0 k 0 b []
  by_cases hp:(a,k,b)=(0,0,[])
  ·rw [if_pos hp] at hA0
   subst hA0
   simp only [Prod.mk.injEq] at hp
   obtain ⟨rfl,rfl,rfl⟩:=hp
   repeat' first | refine sp_ ?_ | exact ex0 | refine Qab Tryz.call103 (ca) [] ex1 ?_ | refine Qab Tryz.call104 (cp) [] ex1 ?_ | exact re0 []
   refine Qcn _ _ _ (.inl rfl) ex0 ex0 (by kernel_rfl) hA ?_
   repeat' first | refine sp_ ?_ | exact ex0 | exact re0 []
  ·rw [if_neg hp] at hA0
   subst hA0
   have hb:decide (a=0∧k=0∧b=[])=false:=decide_eq_false (fun h=>hp (by rw [h.1,h.2.1,h.2.2]))
   rw [hb] at hA
   repeat' first | refine sp_ ?_ | exact ex0 | refine Qab Tryz.call103 (ca) [] ex1 ?_ | refine Qab Tryz.call104 (cp) [] ex1 ?_ | exact re0 []
   refine Qcn _ _ _ (.inl rfl) ex0 ex0 (by kernel_rfl) hA ?_
   repeat' first | refine sp_ ?_ | exact ex0 | exact re0 []
end Go.Proofs.YthfocmakkeonoaaGreatDoor
namespace Go.Proofs.YthfocmakkeonoaaGreatDoor
open Go.RowKit
theorem QiY (m:M6) (hm:QoG m=true):(Qcb m).length=m.data.length+28:=by
 unfold Qcb
 rw [if_pos hm,QiI,Qdu]
 omega
end Go.Proofs.YthfocmakkeonoaaGreatDoor
namespace Go.Proofs.YthfocmakkeonoaaGreatDoor
open Go.RowKit
abbrev QDK (c:RC):List V:=[vi c.src,vi c.ab,vs c.nm,vi c.b1,vi c.b2,vi c.b3,vi c.g1,vi c.g2,vi c.g3,vi c.g4,vi c.lo,vi c.hi,vi c.ev,vi c.pt]
def Qa1 (lo hi:Int):RC:=⟨2,1,[121,111,117],1000,60000,33554432,1000,5,1,5,lo,hi,1048576,15⟩
theorem QiZ (lo hi:Int):Qan Tryz.prog 7 [.ca (.val (vi lo)),.ca (.val (vi hi))] [] (.ca (.val (.agg (QDK (Qa1 lo hi))))) []:=by
 unfold Qa1
 refine Qaa Tryz.func7 rfl Tryz.ntmps7 Tryz.results7 ⟨by decide,by simp⟩ fun C hC=>?_
 repeat' first | refine sp_ ?_ | exact ex0 | exact re0 []
theorem Qmq (c:RC) (h1:0≤c.src∧c.src<4294967296) (h2:0≤c.ab∧c.ab<4294967296):Qan Tryz.prog 6 [.ca (.val (.agg (QDK c)))] [] (.ca (.val (.agg (rcL c)))) []:=by
 obtain ⟨src,ab,nm,b1,b2,b3,g1,g2,g3,g4,lo,hi,ev,pt⟩:=c
 dsimp only at *
 refine Qaa Tryz.func6 rfl Tryz.ntmps6 Tryz.results6 ⟨by decide,by simp⟩ fun C hC=>?_
 repeat' first | refine sp_ ?_ | exact ex0 | exact re0 []
theorem QqQ (x:Rx):Qan Tryz.prog 12 [.ca (.val (.ep (rxV x)))] [] (.ca (.val (.agg [vi x.ct.md,vi x.ct.bd,vi x.ct.fo,vi x.ct.la,vi x.ct.tw,vi x.ct.rp]))) []:=by
 refine Qaa Tryz.func12 rfl Tryz.ntmps12 Tryz.results12 ⟨by decide,by simp⟩ fun C hC=>?_
 repeat' first | refine sp_ ?_ | exact ex0 | exact re0 []
theorem QFf (l:List UInt8) (n:Nat) (hn:n≤1000000) (hl:l.length≤maxLen):Qan Tryz.prog 8 [.ca (.val (vs l)),.ca (.val (vi n))] [] (.ca (.val (vs (l.take n)))) []:=by
 unfold maxLen at hl
 by_cases h:(n:Int)<l.length
 ·refine Qaa Tryz.func8 rfl Tryz.ntmps8 Tryz.results8 ⟨by decide,by simp⟩ fun C hC=>?_
  repeat' first | refine sp_ ?_ | exact ex0 | exact re0 []
 ·rw [List.take_of_length_le (by omega)]
  refine Qaa Tryz.func8 rfl Tryz.ntmps8 Tryz.results8 ⟨by decide,by simp⟩ fun C hC=>?_
  repeat' first | refine sp_ ?_ | exact ex0 | exact re0 []
theorem QqR:(Qa4 []).2≠0:=by decide +kernel
theorem QFg {m:M6} (ho:m.Ok) (hd:m.data.length≤20):((Qa4 (Qcb m)).2=0→(Qa4 (Qcb m)).1.Ok∧(Qa4 (Qcb m)).1.data.length≤1500)∧(Qcb m).length≤1000:=by
 cases hm:QoG m with
 | true=>
  rw [Qfl m ho hm]
  exact ⟨fun _=>⟨ho,by dsimp only;omega⟩,by rw [QiY m hm];omega⟩
 | false=>
  rw [(Ql0 m).2 hm]
  exact ⟨fun h=>absurd h QqR,by simp⟩
end Go.Proofs.YthfocmakkeonoaaGreatDoor
namespace Go.Proofs.YthfocmakkeonoaaGreatDoor
open Go.RowKit
section
variable {P:Program} {C:Ctx} {σ:St} {Q:Exit→St→Prop}
theorem QDg {c:Code} {n:Nat} (hC:C.nt=n) (t:Nat) (k:Id) (e:TypeId) (sz:Nat) (ts:List Nat) (hk:k.2≠0) (hn:((t::ts).all fun u=>decide (u<n))=true)
  (h:σ (.s t)=.av (.val (.sc (.slice none 0 0)))∧AW P C c (Qaf σ (QaA σ k (.rw e sz [])++((.s t,.av (.ref k (gh σ k+1)))::QDw k (gh σ k+1) 0 ts))) Q):AW P C c σ Q:=by
 subst hC
 have hall:=QfV hn
 obtain ⟨h1,h2⟩:=h
 intro E a w hg
 obtain ⟨E',g1,_,_,_,_,g6⟩:=hg.gainTree k (.rw e sz []) (.slice none 0 0) [] (fun y h=>by cases h)
  (by have:=Qkc (m:=E.m) (w:=w) (e:=e) (sz:=sz) (es:=[]) (v:=.slice none 0 0) (us:=[]) (World.ownsRow_nil _ _ _ _) (fun r h=>by cases h) (fun i j hi=>by simp at hi) (fun b hb=>by cases hb);exact this) (fun b hb=>by cases hb) hk
 have hv:a.tmps.getD t undef=.slice none 0 0:=Rd.sc_eq (hg.sl t _ h1)
 have g2:=g1.ghost t (.ref k (gh σ k+1)) (hall t (List.mem_cons_self ..)) (by rw [hv];exact g6.toA)
 have e1:gh (put (Qaf σ (QaA σ k (.rw e sz []))) (.s t) (.av (.ref k (gh σ k+1)))) k=gh σ k+1:=by
  rw [QaL (Qag _ _ (by simp))]
  exact Qk0 (by simp [QaA,Qaf,put])
 have g3:=Gm.caps k ts _ g2 fun u hu=>hall u (List.mem_cons_of_mem _ hu)
 have e2:Qfq (E'.bv k)=0:=by
  have hgh:gh (Qaf σ (QaA σ k (.rw e sz []))) k=gh σ k+1:=Qk0 (by simp [QaA,Qaf,put])
  have:=(show RdP E' _ (.ref k (gh σ k+1)) (.slice none 0 0) from g6).2 hgh.symm
  rw [←this];rfl
 rw [e1,e2] at g3
 refine h2 E' a w ?_
 rw [Qal]
 exact g3
attribute [go_sem] QDw
end
theorem QqS (n:Int) (hn:0≤n∧n≤1000000):Qan Tryz.prog 102 [.ca (.val (.sc (.slice none 0 0))),.ca (.val (vi n))] [] (.ca (.hd (.rw 116 3 []))) []:=by
 refine Qaa Tryz.func102 rfl Tryz.ntmps102 Tryz.results102 ⟨by decide,by simp⟩ fun C hC=>?_
 refine QDg hC 0 (0,1) 116 3 [10,19,22] (by decide) (by rfl) ?_
 refine sx_ ?_
 by_cases h0:n=0
 ·subst h0
  repeat' first | refine sp_ ?_ | exact ex0 | refine QaC (fun h=>?_) (fun h=>?_) | refine Qav (fun h=>?_) (fun h=>?_) | refine QaB (fun h=>?_) (fun h=>?_) | exact re0 []
 ·(repeat' ((fail_if_success (first | refine Qas 6 ?_ | refine Qay 6 ?_));(first | refine sp_ ?_ | exact ex0 | exact re0 [])))
  refine Qzp 0 (22,1) 0 116 3 (List.replicate (n-0).toNat [vi 0,vi 0,vs []]) ⟨⟨by kernel_rfl,by kernel_rfl,by simp,by rw [hC];decide⟩,?_⟩
  rw [List.take_zero]
  refine sx_ ?_
  repeat' first | refine sp_ ?_ | exact ex0 | refine QaC (fun h=>?_) (fun h=>?_) | refine Qav (fun h=>?_) (fun h=>?_) | refine QaB (fun h=>?_) (fun h=>?_) | exact re0 []
theorem QAC (l:List Pc):∀ r∈l.map Qfo,r.length=3:=fun r h=>by obtain ⟨e,_,rfl⟩:=List.mem_map.1 h;rfl
theorem QAD (l:List Pc):∀ r∈l.map Qfo,∀ y∈r,Qfn y=true:=fun r h y hy=>by
 obtain ⟨e,_,rfl⟩:=List.mem_map.1 h
 simp [Qfo] at hy
 rcases hy with rfl | rfl | rfl <;> rfl
theorem Qhe (ls:List (List Pc)) (hl:ls.length≤1000) (hb:∀ l∈ls,l.length≤1000):Qan Tryz.prog 42 [.ca (.val (.lst 1 (ls.map fun l=>[.lst 3 (l.map Qfo)])))] [] (.ca (.hd (.rw 116 3 (ls.flatten.map Qfo)))) []:=by
 have hsum:∀ i,i≤ls.length→((ls.take i).flatten).length≤1000 * i:=fun i=>by
  induction i with
  | zero=>intro _;simp
  | succ i ih=>
   intro hi
   rw [List.take_succ_eq_append_getElem (by omega),List.flatten_append,List.length_append]
   have h1:=ih (by omega)
   have h2:=hb _ (List.getElem_mem (show i<ls.length by omega))
   simp only [List.flatten_cons,List.flatten_nil,List.append_nil]
   omega
 refine Qaa Tryz.func42 rfl Tryz.ntmps42 Tryz.results42 ⟨by decide,by simp⟩ fun C hC=>?_
 (repeat' ((fail_if_success (refine Qat 3 ?_));(first | refine sp_ ?_ | exact ex0 | exact re0 [])))
 refine QaD (α:={i:Nat // i≤ls.length}) (fun i=>[(.s 0,.av (.val (.lst 1 (ls.map fun l=>[.lst 3 (l.map Qfo)])))),(.s 2,.av (.val (.sc (.slice none 0 0)))),(.s 3,.av (.val (vi (ls.take i.1).flatten.length))),(.s 9,.av (.val (.lst 1 (ls.map fun l=>[.lst 3 (l.map Qfo)])))),(.s 10,.av (.val (vi ls.length))),(.s 11,.av (.val (vi i.1)))]) (fun i=>ls.length-i.1) ⟨0,Nat.zero_le _⟩ ?_ (fun i=>?_)
 ·exact ex0
 obtain ⟨i,hi⟩:=i
 dsimp only at hi ⊢
 have hs:=hsum i hi
 by_cases hlt:i<ls.length
 ·have hltz:(i:Int)<ls.length:=by omega
  have hb1:=hb _ (List.getElem_mem hlt)
  have e1:((ls.take (i+1)).flatten.length:Int)=(ls.take i).flatten.length+ls[i].length:=by
   rw [List.take_succ_eq_append_getElem hlt,List.flatten_append,List.length_append];simp
  generalize (ls.take i).flatten.length=sz at *
  repeat' first | refine sp_ ?_ | exact ex0 | exact re0 []
  refine Qau (α:={i:Nat // i≤ls.length}) ⟨i+1,hlt⟩ ⟨?_,by (try dsimp only);omega⟩
  (try dsimp only)
  rw [e1]
  exact ex0
 ·obtain rfl:i=ls.length:=by omega
  rw [List.take_length] at hs ⊢
  have cg:=QqS ls.flatten.length (by omega)
  (repeat' ((fail_if_success (refine Qat 11 ?_));(first | refine sp_ ?_ | exact ex0 | refine Qab Tryz.call102 (cg) [] ex1 ?_ | exact re0 [])))
  refine QaD (α:={i:Nat // i≤ls.length}) (fun i=>[(.s 2,.av (.val (.sc (.slice none 0 0)))),(.r (24,1),.tree (.rw 116 3 ((ls.take i.1).flatten.map Qfo))),(.s 6,.av (.ref (24,1) 0)),(.s 25,.av (.val (.lst 1 (ls.map fun l=>[.lst 3 (l.map Qfo)])))),(.s 26,.av (.val (vi ls.length))),(.s 27,.av (.val (vi i.1)))]) (fun i=>ls.length-i.1) ⟨0,Nat.zero_le _⟩ ?_ (fun i=>?_)
  ·refine sx_ ?_
   rfl
  obtain ⟨i,hi⟩:=i
  dsimp only at hi ⊢
  have hs:=hsum i hi
  by_cases hlt:i<ls.length
  ·have hltz:(i:Int)<ls.length:=by omega
   have hb1:=hb _ (List.getElem_mem hlt)
   have e1:(ls.take (i+1)).flatten.map Qfo=(ls.take i).flatten.map Qfo++ls[i].map Qfo:=by
    rw [List.take_succ_eq_append_getElem hlt,List.flatten_append,List.map_append];simp
   have e2:((ls.take i).flatten.map Qfo).length≤1000 * i:=by rw [List.length_map];exact hs
   generalize (ls.take i).flatten.map Qfo=L at *
   repeat' first | refine sp_ ?_ | exact ex0 | exact re0 []
   refine ⟨⟨by omega,by omega,QAC _,QAD _⟩,?_⟩
   repeat' first | refine sp_ ?_ | exact ex0 | exact re0 []
   refine Qau (α:={i:Nat // i≤ls.length}) ⟨i+1,hlt⟩ ⟨?_,by (try dsimp only);omega⟩
   (try dsimp only)
   rw [e1]
   exact ex0
  ·obtain rfl:i=ls.length:=by omega
   rw [List.take_length]
   repeat' first | refine sp_ ?_ | exact ex0 | exact re0 []
end Go.Proofs.YthfocmakkeonoaaGreatDoor
namespace Go.Proofs.YthfocmakkeonoaaGreatDoor
open Go.RowKit
def QBa:Nat→List UInt8 × Int→List B8
 | 0,_=>[]
 | n+1,x=>rdB x::QBa n (nxB x)
def QBb:Nat→List UInt8 × Int→List UInt8 × Int
 | 0,x=>x
 | n+1,x=>QBb n (nxB x)
theorem QAE (x:List UInt8 × Int):(nxB x).1.length≤x.1.length:=by
 unfold nxB
 exact Nat.le_trans (QaM _ _) (Nat.le_trans (QaM _ _) (Nat.le_trans (QaM _ _) (Nat.le_trans (QaM _ _) (Nat.le_trans (QaM _ _) (Nat.le_trans (QaM _ _) (QaM _ _))))))
theorem QAF (x:List UInt8 × Int):(nxS x).1.length≤x.1.length:=by
 unfold nxS
 exact Nat.le_trans (QaM _ _) (Nat.le_trans (QaM _ _) (Nat.le_trans (QaM _ _) (Nat.le_trans (QaM _ _) (QaM _ _))))
def QDh (n:Int):Int:=max 0 (min n 32)
def QDi (p:Pc):R8:=
 ⟨vl 4 (p.2.2,0),decide (p.2.1=200),if p.2.1=200 then rdS (nx 4 (p.2.2,0)) else ⟨0,0,0,0⟩,
  QBa (QDh p.1).toNat (if p.2.1=200 then nxS (nx 4 (p.2.2,0)) else nx 4 (p.2.2,0))⟩
def Qxk (p:Pc):List UInt8 × Int:=QBb (QDh p.1).toNat (if p.2.1=200 then nxS (nx 4 (p.2.2,0)) else nx 4 (p.2.2,0))
def noR:R8:=⟨0,false,⟨0,0,0,0⟩,[]⟩
def ofE (p:Pc):Int:=
 if p.2.1≠200∧p.2.1≠201 then 5 else if Qx1 (Qxk p).1 (Qxk p).2≠0 then Qx1 (Qxk p).1 (Qxk p).2 else if Qym (QDi p)=true then 0 else 6
def ofR (p:Pc):R8:=if ofE p=0 then QDi p else noR
theorem QuB (p:Pc) (hp:p.2.2.length≤maxLen):Qan Tryz.prog 221 [.ca (.val (pcV p))] [] (.ca (.val (.tup [.agg (r8L (ofR p)),vi (ofE p)]))) []:=by
 obtain ⟨n,k,b⟩:=p
 dsimp only at hp
 have q1:=Qmy (b,0) hp
 have l1:=Nat.le_trans (QaM 4 (b,0)) hp
 have q2:=QnE (nx 4 (b,0)) l1
 have l2:=Nat.le_trans (QAF (nx 4 (b,0))) l1
 obtain ⟨E,hE⟩:∃ E,E=ofE (n,k,b):=⟨_,rfl⟩
 obtain ⟨R,hR⟩:∃ R,R=ofR (n,k,b):=⟨_,rfl⟩
 rw [←hE,←hR]
 refine Qaa Tryz.func221 rfl Tryz.ntmps221 Tryz.results221 ⟨by decide,by simp⟩ fun C hC=>?_
 (repeat ((fail_if_success (refine Qat 1 ?_));(first | refine sp_ ?_ | exact ex0)))
 refine Qil (α:={_x:Unit // k=200∨k=201}) (fun _=>[(.s 1,.av (.ptr (1,0) 0 0)),(.o (1,0),.num 3),(.c (1,0) 0,.av (.val (vi n))),(.c (1,0) 1,.av (.val (vi k))),(.c (1,0) 2,.av (.val (vs b))),
  (.s 2,.av (.ptr (2,0) 0 0)),(.o (2,0),.num 7),(.c (2,0) 0,.av (.val (vu 0))),(.c (2,0) 1,.av (.val (vb false))),(.c (2,0) 2,.av (.val (vi 0))),(.c (2,0) 3,.av (.val (vu 0))),(.c (2,0) 4,.av (.val (vu 0))),(.c (2,0) 5,.av (.val (vu 0))),(.c (2,0) 6,.av (.val (.sc (.slice none 0 0)))),(.s 3,.av (.val (vi 0)))]) ?_ (fun x=>?_)
 ·by_cases h1:k=200
  ·subst h1
   repeat first | refine sp_ ?_ | exact ex0
   refine Qby ⟨(),.inl rfl⟩ ?_
   exact ex0
  by_cases h2:k=201
  ·subst h2
   repeat first | refine sp_ ?_ | exact ex0
   refine Qby ⟨(),.inr rfl⟩ ?_
   exact ex0
  ·have e:ofE (n,k,b)=5:=by unfold ofE;rw [if_pos ⟨h1,h2⟩]
   rw [e] at hE
   have e2:ofR (n,k,b)=noR:=by unfold ofR;rw [e];rfl
   rw [e2] at hR
   subst hE hR
   repeat first | refine sp_ ?_ | exact ex0
   exact re0 []
 obtain ⟨_,hk⟩:=x
 have hofE:ofE (n,k,b)=if Qx1 (Qxk (n,k,b)).1 (Qxk (n,k,b)).2≠0 then Qx1 (Qxk (n,k,b)).1 (Qxk (n,k,b)).2 else if Qym (QDi (n,k,b))=true then 0 else 6:=by
  unfold ofE;rw [if_neg (by dsimp only;omega)]
 rw [hofE] at hE
 unfold ofR at hR
 rw [hofE,←hE] at hR
 unfold QDi Qxk at hE
 unfold QDi at hR
 dsimp only at hE hR
 obtain ⟨src,hsrc⟩:∃ x,x=vl 4 (b,0):=⟨_,rfl⟩
 obtain ⟨is,his⟩:∃ x,x=decide (k=200):=⟨_,rfl⟩
 obtain ⟨st,hst⟩:∃ x,x=if k=200 then rdS (nx 4 (b,0)) else ⟨0,0,0,0⟩:=⟨_,rfl⟩
 obtain ⟨x0,hx0⟩:∃ x,x=if k=200 then nxS (nx 4 (b,0)) else nx 4 (b,0):=⟨_,rfl⟩
 have hxl:x0.1.length≤maxLen:=by rw [hx0];split <;> assumption
 rw [←hst,←hx0,←hsrc,←his] at hE hR
 rw [←hsrc] at q1
 have his':(k == 200)=is:=by rw [his];rfl
 (repeat ((fail_if_success (refine Qat 5 ?_));(first | refine sp_ ?_ | exact ex0)))
 refine Qac Tryz.call121 (Qe0 b) [] ?_
 repeat first | refine sp_ ?_ | exact ex0
 refine Qac Tryz.call124 q1 [(18,0)] ?_
 (repeat ((fail_if_success (refine Qat 5 ?_));(first | refine sp_ ?_ | exact ex0)))
 refine Qil (α:={_x:Unit // True}) (fun _=>[(.s 1,.av (.ptr (1,0) 0 0)),(.o (1,0),.num 3),(.c (1,0) 0,.av (.val (vi n))),(.s 2,.av (.ptr (2,0) 0 0)),(.o (2,0),.num 7),(.c (2,0) 0,.av (.val (vu 0))),(.c (2,0) 1,.av (.val (vb false))),(.c (2,0) 2,.av (.val (vi 0))),(.c (2,0) 3,.av (.val (vu 0))),(.c (2,0) 4,.av (.val (vu 0))),(.c (2,0) 5,.av (.val (vu 0))),(.c (2,0) 6,.av (.val (.sc (.slice none 0 0)))),(.s 3,.av (.val (vi 0))),(.o (18,0),.num 2),(.c (18,0) 0,.av (.val (vs x0.1))),(.c (18,0) 1,.av (.val (vi x0.2))),(.s 4,.av (.ptr (18,0) 0 0)),(.o (5,0),.num 7),(.c (5,0) 0,.av (.val (vu src))),(.c (5,0) 1,.av (.val (vb is))),(.c (5,0) 2,.av (.val (vi st.clock))),(.c (5,0) 3,.av (.val (vu st.time))),(.c (5,0) 4,.av (.val (vu st.packets))),(.c (5,0) 5,.av (.val (vu st.bytes))),(.c (5,0) 6,.av (.val (.sc (.slice none 0 0)))),(.s 5,.av (.ptr (5,0) 0 0))]) ?_ (fun _=>?_)
 ·rcases hk with rfl | rfl
  ·rw [if_pos rfl] at hst hx0
   rw [decide_eq_true rfl] at his
   subst his
   repeat first | refine sp_ ?_ | exact ex0
   refine Qac Tryz.call240 q2 [(18,0)] ?_
   repeat first | refine sp_ ?_ | exact ex0
   subst hst hx0
   refine Qby ⟨(),trivial⟩ ?_
   exact ex0
  ·rw [if_neg (by decide)] at hst hx0
   rw [decide_eq_false (by decide)] at his
   subst his
   repeat first | refine sp_ ?_ | exact ex0
   subst hst hx0
   refine Qby ⟨(),trivial⟩ ?_
   exact ex0
 obtain ⟨N,hN⟩:∃ N,N=(QDh n).toNat:=⟨_,rfl⟩
 have hcn:max 0 (min n 32)=(N:Int):=by unfold QDh at hN;omega
 have hN32:N≤32:=by unfold QDh at hN;omega
 obtain ⟨BS,hBS⟩:∃ x,x=QBa N x0:=⟨_,rfl⟩
 obtain ⟨XF,hXF⟩:∃ x,x=QBb N x0:=⟨_,rfl⟩
 rw [←hN,←hBS,←hXF] at hE
 rw [←hN,←hBS] at hR
 repeat first | refine sp_ ?_ | exact ex0
 refine Qb2 (5,0) 6 (5,7) 186 7 ?_
 refine sx_ ?_
 refine QaD (α:={y:Nat × (List UInt8 × Int) × List B8 // y.1≤N∧y.2.1.1.length≤maxLen∧y.2.2.length=y.1∧y.2.2++QBa (N-y.1) y.2.1=BS∧QBb (N-y.1) y.2.1=XF}) (fun y=>[(.s 1,.av (.ptr (1,0) 0 0)),(.o (1,0),.num 3),(.c (1,0) 0,.av (.val (vi n))),(.s 2,.av (.ptr (2,0) 0 0)),(.o (2,0),.num 7),(.c (2,0) 0,.av (.val (vu 0))),(.c (2,0) 1,.av (.val (vb false))),(.c (2,0) 2,.av (.val (vi 0))),(.c (2,0) 3,.av (.val (vu 0))),(.c (2,0) 4,.av (.val (vu 0))),(.c (2,0) 5,.av (.val (vu 0))),(.c (2,0) 6,.av (.val (.sc (.slice none 0 0)))),(.s 3,.av (.val (vi 0))),(.o (18,0),.num 2),(.c (18,0) 0,.av (.val (vs y.1.2.1.1))),(.c (18,0) 1,.av (.val (vi y.1.2.1.2))),(.s 4,.av (.ptr (18,0) 0 0)),(.o (5,0),.num 7),(.c (5,0) 0,.av (.val (vu src))),(.c (5,0) 1,.av (.val (vb is))),(.c (5,0) 2,.av (.val (vi st.clock))),(.c (5,0) 3,.av (.val (vu st.time))),(.c (5,0) 4,.av (.val (vu st.packets))),(.c (5,0) 5,.av (.val (vu st.bytes))),(.c (5,0) 6,.av (.own (5,7) 0 186 7 (y.1.2.2.map Qvb))),(.s 5,.av (.ptr (5,0) 0 0)),(.k (5,7),.row 186 7 y.1.2.2.length),(.s 33,.av (.val (vi N))),(.s 34,.av (.val (vi y.1.1)))]) (fun y=>N-y.1.1) ⟨(0,x0,[]),Nat.zero_le _,hxl,rfl,hBS.symm,hXF.symm⟩ ?_ (fun y=>?_)
 ·simp only [List.map_nil]
  refine sx_ ?_
  exact hcn
 ·obtain ⟨⟨j,x,acc⟩,hj,hxl',hac,hb1,hb2⟩:=y
  dsimp only at hj hxl' hac hb1 hb2 ⊢
  by_cases hlt:j<N
  ·have hbl:=Qmo x hxl'
   have hnl:=Nat.le_trans (QAE x) hxl'
   obtain ⟨m,hm⟩:∃ m,N-j=m+1:=⟨N-j-1,by omega⟩
   have hm2:N-(j+1)=m:=by omega
   rw [hm] at hb1 hb2
   rw [QBa] at hb1
   rw [QBb] at hb2
   repeat first | refine sp_ ?_ | exact ex0
   refine Qac Tryz.call241 hbl [(18,0)] ?_
   repeat first | refine sp_ ?_ | exact ex0
   refine Qau ⟨(j+1,nxB x,acc++[rdB x]),hlt,hnl,by simp [hac],by dsimp only;rw [hm2,List.append_assoc];exact hb1,by dsimp only;rw [hm2];exact hb2⟩ ⟨?_,by dsimp only;omega⟩
   refine sx_ ?_
   rw [List.map_append];rfl
  ·have hjN:N-j=0:=by omega
   rw [hjN] at hb1 hb2
   simp only [QBa,QBb,List.append_nil] at hb1 hb2
   clear hBS hXF
   subst hb1 hb2
   have c1:=QCo x.1 x.2
   have c2:=Qhd ⟨src,is,st,acc⟩ (by dsimp only;omega)
   obtain ⟨e,he⟩:∃ e,e=Qx1 x.1 x.2:=⟨_,rfl⟩
   rw [←he] at hE c1
   by_cases h0:e=0
   ·rw [if_neg (by simpa using h0)] at hE
    subst h0
    cases hm:Qym ⟨src,is,st,acc⟩ with
    | false=>
     rw [hm,if_neg (by decide)] at hE c2
     subst hE
     rw [if_neg (by decide)] at hR
     subst hR
     repeat first | refine sp_ ?_ | exact ex0
     refine Qac Tryz.call242 c1 [(18,0)] ?_
     repeat first | refine sp_ ?_ | exact ex0
     refine Qac Tryz.call87 c2 [] ?_
     repeat first | refine sp_ ?_ | exact ex0
     exact re0 []
    | true=>
     rw [hm,if_pos rfl] at hE c2
     subst hE
     rw [if_pos rfl] at hR
     subst hR
     repeat first | refine sp_ ?_ | exact ex0
     refine Qac Tryz.call242 c1 [(18,0)] ?_
     repeat first | refine sp_ ?_ | exact ex0
     refine Qac Tryz.call87 c2 [] ?_
     repeat first | refine sp_ ?_ | exact ex0
     exact re0 []
   ·rw [if_pos h0] at hE
    subst hE
    rw [if_neg h0] at hR
    subst hR
    repeat first | refine sp_ ?_ | exact ex0
    refine Qac Tryz.call242 c1 [(18,0)] ?_
    repeat first | refine sp_ ?_ | exact ex0
    exact re0 []
end Go.Proofs.YthfocmakkeonoaaGreatDoor
namespace Go.Proofs.YthfocmakkeonoaaGreatDoor
open Go.RowKit
abbrev z8L (b:B8):List V:=[vi b.src,vi b.fr,vi b.lost,vi b.hi,vi b.ji,vi b.la,vi b.de]
def QGp (b:B8):List V:=z8L b
attribute [go_sem] QGp
attribute [go_sem] Qaj
theorem QAG (r:R8):(hdR r).length≤24:=by
 unfold hdR
 have:=Qux r.sent
 split <;> simp [Qai,this]
end Go.Proofs.YthfocmakkeonoaaGreatDoor
namespace Go.Proofs.YthfocmakkeonoaaGreatDoor
open Go.RowKit
end Go.Proofs.YthfocmakkeonoaaGreatDoor
namespace Go.Proofs.YthfocmakkeonoaaGreatDoor
open Go.RowKit
end Go.Proofs.YthfocmakkeonoaaGreatDoor
namespace Go.Proofs.YthfocmakkeonoaaGreatDoor
open Go.RowKit
def zer (k:Nat):List UInt8:=List.replicate k 0
def Qgh (n least:Nat):Nat:=least+(4-(n+least) % 4) % 4
theorem Qo4 (n m least:Nat) (h:n % 4=m % 4):Qgh n least=Qgh m least:=by unfold Qgh;omega
theorem Qxl (n least:Nat):(n+Qgh n least) % 4=0:=by unfold Qgh;omega
theorem QnF (k:Nat):(zer k).length=k:=List.length_replicate ..
def QFh (s:List UInt8):List UInt8:=s++zer (Qgh s.length 0)
structure N9 where
 src:Int
 text:List UInt8
 deriving DecidableEq
def Qyn (x:N9):Bool:=decide (1≤x.text.length∧x.text.length≤255)
def QgU (x:N9):List UInt8:=Qah 4 [x.src]++Qah 1 [1,(x.text.length:Int)]++x.text++zer (Qgh (6+x.text.length) 1)
theorem Qmr (x:N9):(QgU x).length=6+x.text.length+Qgh (6+x.text.length) 1:=by
 unfold QgU
 simp only [List.length_append,Qai,QnF,List.length_cons,List.length_nil]
theorem QuC (x:N9):(QgU x).length % 4=0:=by rw [Qmr];exact Qxl _ _
def QdU (l:List N9):Pc:=if l.length≤31∧l.all Qyn=true then ((l.length:Int),202,l.flatMap QgU) else (0,0,[])
theorem QuD (l:List N9):(l.flatMap QgU).length % 4=0:=by
 induction l with
 | nil=>rfl
 | cons x l ih=>
  have:=QuC x
  rw [List.flatMap_cons,List.length_append]
  omega
theorem Qo5 (l:List N9) (h:l.all Qyn=true):(l.flatMap QgU).length≤300 * l.length:=by
 induction l with
 | nil=>simp
 | cons x l ih=>
  simp only [List.all_cons,Bool.and_eq_true] at h
  have h1:=h.1
  unfold Qyn at h1
  rw [decide_eq_true_eq] at h1
  have h2:=Qmr x
  have h3:Qgh (6+x.text.length) 1≤4:=by unfold Qgh;omega
  have:=ih h.2
  rw [List.flatMap_cons,List.length_append,List.length_cons]
  omega
structure Y9 where
 reason:List UInt8
 srcs:List Int
 deriving DecidableEq
def QFD (b:Y9):Bool:=decide (b.srcs.length≤31∧b.reason.length≤255)
def QgV (r:List UInt8):List UInt8:=if r=[] then [] else Qah 1 [(r.length:Int)]++r++zer (Qgh (1+r.length) 0)
def QAH (b:Y9):Pc:=if QFD b=true then ((b.srcs.length:Int),203,Qah 4 b.srcs++QgV b.reason) else (0,0,[])
structure A9 where
 sub:Int
 src:Int
 name:List UInt8
 data:List UInt8
 deriving DecidableEq
def QFi (a:A9):Bool:=decide (0≤a.sub∧a.sub≤31∧a.name.length=4∧a.data.length % 4=0∧a.data.length≤1024)
def Qq8 (a:A9):Pc:=if QFi a=true then (a.sub,204,Qah 4 [a.src]++a.name++a.data) else (0,0,[])
end Go.Proofs.YthfocmakkeonoaaGreatDoor
namespace Go.Proofs.YthfocmakkeonoaaGreatDoor
open Go.RowKit
theorem QGq (c:Nat) (hc:c≤1000):Qan Tryz.prog 57 [.ca (.val (vs [0])),.ca (.val (vi c))] [] (.ca (.val (vs (zer c)))) []:=by
 have e:Lib.repeatL [0] c=zer c:=by
  induction c with
  | zero=>rfl
  | succ c ih=>rw [Lib.repeatL,ih (by omega)];rfl
 refine Qkp (us:=[str [0],.int .i64 c]) (u:=str (zer c)) fun w=>?_
 have:=Tryz.strings_Repeat ⟨#[0]⟩ c w (by omega) (by show 1 * c≤_;omega)
 rw [show ((⟨#[0]⟩:ByteArray).data.toList)=[0] from rfl,e] at this
 exact this
theorem Qms (l:List UInt8) (k:Nat) (hk:k≤1) (hl:l.length≤1099511627776):Qan Tryz.prog 90 [.ptr 0 0,.ca (.val (vi k))] [QeZ l] (.ca (.val (.tup []))) [QeZ (l++zer (Qgh l.length k))]:=by
 have hp:Qgh l.length k≤4:=by unfold Qgh;omega
 have hc:=QGq (Qgh l.length k) (by omega)
 have e:(k:Int)+(4-((l.length:Int)+k) % 4) % 4=(Qgh l.length k:Int):=by unfold Qgh;omega
 refine Qaa Tryz.func90 rfl Tryz.ntmps90 Tryz.results90 ⟨by decide,by simp⟩ fun C hC=>?_
 repeat first | refine sp_ ?_ | exact ex0
 refine Qac Tryz.call22 (Qa3 l (by omega)) [(1000,0)] ?_
 repeat first | refine sp_ ?_ | exact ex0
 refine Qac Tryz.call57 hc [] ?_
 repeat first | refine sp_ ?_ | exact ex0
 have hz:=QnF (Qgh l.length k)
 repeat first | refine sp_ ?_ | exact ex0
 refine Qac Tryz.call60 (Qei l [zer (Qgh l.length k)] (by simp only [List.flatten_cons,List.flatten_nil,List.append_nil];omega) (by simp)) [(1000,0)] ?_
 repeat first | refine sp_ ?_ | exact ex0
 (refine Qap [] ?_;simp (decide:=true) (disch:=omega) only [go_sem,↓reduceIte,↓Qad])
 simp
abbrev n9L (x:N9):List V:=[vu x.src,vs x.text]
def Qe3 (x:N9):List V:=n9L x
abbrev QGr (x:N9):List V:=[vi x.src,vs x.text]
def QFj (x:N9):List V:=QGr x
attribute [go_sem] Qe3 QFj
def N9.Ok (x:N9):Prop:=(0≤x.src∧x.src<4294967296)∧x.text.length≤maxLen
theorem Qi0 (l:List N9) (hl:l.length≤maxLen) (ho:∀ x∈l,x.Ok):Qan Tryz.prog 39 [.ca (.val (.lst 2 (l.map Qe3)))] [] (.ca (.val (pcV (QdU l)))) []:=by
 unfold maxLen at hl
 obtain ⟨R,hR⟩:∃ R,R=QdU l:=⟨_,rfl⟩
 rw [←hR]
 unfold QdU at hR
 by_cases h31:31<l.length
 ·rw [if_neg (by omega)] at hR
  subst hR
  refine Qaa Tryz.func39 rfl Tryz.ntmps39 Tryz.results39 ⟨by decide,by simp⟩ fun C hC=>?_
  repeat first | refine sp_ ?_ | exact ex0
  exact re0 []
 refine Qaa Tryz.func39 rfl Tryz.ntmps39 Tryz.results39 ⟨by decide,by simp⟩ fun C hC=>?_
 repeat first | refine sp_ ?_ | exact ex0
 refine Qb2 (3,0) 0 (3,1) 5 1 ?_
 refine sx_ ?_
 refine QaD (α:={j:Nat // j≤l.length∧(l.take j).all Qyn=true}) (fun j=>[(.s 0,.av (.val (.lst 2 (l.map Qe3)))),(.s 2,.av (.ptr (2,0) 0 0)),(.o (2,0),.num 3),(.s 3,.av (.ptr (3,0) 0 0)),(.o (3,0),.num 1),(.c (3,0) 0,.av (.own (3,1) 0 5 1 (((l.take j.1).flatMap QgU).map QaG))),(.k (3,1),.row 5 1 (((l.take j.1).flatMap QgU).map QaG).length),(.s 10,.av (.val (.lst 2 (l.map Qe3)))),(.s 11,.av (.val (vi l.length))),(.s 12,.av (.val (vi j.1)))]) (fun j=>l.length-j.1) ⟨0,Nat.zero_le _,rfl⟩ ?_ (fun j=>?_)
 ·simp only [List.take_zero,List.flatMap_nil]
  exact ex0
 ·obtain ⟨j,hj,ha⟩:=j
  dsimp only at hj ⊢
  have hw:=Qo5 _ ha
  have hwm:=QuD (l.take j)
  rw [List.length_take,Nat.min_eq_left hj] at hw
  by_cases hlt:j<l.length
  ·have ht:l.take (j+1)=l.take j++[l[j]]:=List.take_succ_eq_append_getElem hlt
   have hmem:=List.getElem_mem hlt
   obtain ⟨o1,o2⟩:=ho _ hmem
   by_cases hm:Qyn l[j]=true
   ·have hn:(l.take (j+1)).all Qyn=true:=by rw [ht,List.all_append,ha];simp [hm]
    unfold Qyn at hm
    rw [decide_eq_true_eq] at hm
    have hne:l[j].text≠[]:=fun h=>by rw [h] at hm;simp at hm
    generalize hB:(l.take j).flatMap QgU=B at *
    have hq:=Qai 4 [l[j].src]
    have hq2:=Qai 1 [1,(l[j].text.length:Int)]
    simp only [List.length_cons,List.length_nil] at hq hq2
    have c1:=Qca B [l[j].src] (by simp only [List.length_cons,List.length_nil];omega) (by simpa using o1)
    have c2:=QdS (B++Qah 4 [l[j].src]) [1,(l[j].text.length:Int)] (by simp only [List.length_append,List.length_cons,List.length_nil];omega)
    have c3:=Qei (B++Qah 4 [l[j].src]++Qah 1 [1,(l[j].text.length:Int)]) [l[j].text] (by simp only [List.length_append,List.flatten_cons,List.flatten_nil,List.append_nil];omega) (by simp)
    have c4:=Qms (B++Qah 4 [l[j].src]++Qah 1 [1,(l[j].text.length:Int)]++[l[j].text].flatten) 1 (by decide) (by simp only [List.length_append,List.flatten_cons,List.flatten_nil,List.append_nil];omega)
    have c5:Qgh (B++Qah 4 [l[j].src]++Qah 1 [1,(l[j].text.length:Int)]++[l[j].text].flatten).length 1=Qgh (6+l[j].text.length) 1:=Qo4 _ _ _ (by simp only [List.length_append,List.flatten_cons,List.flatten_nil,List.append_nil];omega)
    rw [c5] at c4
    have hb:(l[j].text == [])=false:=by simpa using hne
    repeat first | refine sp_ ?_ | exact ex0
    simp only [hb]
    repeat first | refine sp_ ?_ | exact ex0
    refine Qac Tryz.call59 c1 [(3,0)] ?_
    repeat first | refine sp_ ?_ | exact ex0
    refine Qac Tryz.call18 c2 [(3,0)] ?_
    repeat first | refine sp_ ?_ | exact ex0
    refine Qac Tryz.call60 c3 [(3,0)] ?_
    repeat first | refine sp_ ?_ | exact ex0
    refine Qac Tryz.call90 c4 [(3,0)] ?_
    repeat first | refine sp_ ?_ | exact ex0
    have e1:(l.take (j+1)).flatMap QgU=B++Qah 4 [l[j].src]++Qah 1 [1,(l[j].text.length:Int)]++[l[j].text].flatten++zer (Qgh (6+l[j].text.length) 1):=by
     rw [ht,List.flatMap_append,hB]
     simp [QgU]
    refine Qau ⟨j+1,hlt,hn⟩ ⟨?_,by dsimp only;omega⟩
    dsimp only
    rw [e1]
    exact ex0
   ·have hR0:R=(0,0,[]):=by
     rw [hR,if_neg]
     intro h
     have:=List.all_eq_true.1 h.2 _ hmem
     exact hm this
    subst hR0
    unfold Qyn at hm
    rw [decide_eq_true_eq] at hm
    by_cases h0:l[j].text=[]
    ·have hb:(l[j].text == [])=true:=by simpa using h0
     repeat first | refine sp_ ?_ | exact ex0
     simp only [hb]
     repeat first | refine sp_ ?_ | exact ex0
     exact re0 []
    ·have h1:0<l[j].text.length:=List.length_pos_iff.2 h0
     have hb:(l[j].text == [])=false:=by simpa using h0
     repeat first | refine sp_ ?_ | exact ex0
     simp only [hb]
     repeat first | refine sp_ ?_ | exact ex0
     exact re0 []
  ·have e:l.take j=l:=List.take_of_length_le (by omega)
   rw [e] at hw ha
   simp only [e]
   have hR0:R=((l.length:Int),202,l.flatMap QgU):=by rw [hR,if_pos ⟨by omega,ha⟩]
   subst hR0
   repeat first | refine sp_ ?_ | exact ex0
   refine Qac Tryz.call22 (Qa3 (l.flatMap QgU) (by omega)) [(3,0)] ?_
   repeat first | refine sp_ ?_ | exact ex0
   exact re0 []
end Go.Proofs.YthfocmakkeonoaaGreatDoor
namespace Go.Proofs.YthfocmakkeonoaaGreatDoor
open Go.RowKit
attribute [go_sem] Qaj
abbrev y9L (b:Y9):List V:=[vs b.reason,.lst 1 (b.srcs.map QdJ)]
structure Y9.Ok (b:Y9):Prop where
 reason:b.reason.length≤maxLen
 len:b.srcs.length≤maxLen
 srcs:∀ n∈b.srcs,0≤n∧n<4294967296
theorem QuE (b:Y9) (ho:b.Ok):Qan Tryz.prog 245 [.ca (.val (.agg (y9L b)))] [] (.ca (.val (pcV (QAH b)))) []:=by
 obtain ⟨r,ss⟩:=b
 obtain ⟨o1,o2,o3⟩:=ho
 obtain ⟨R,hR⟩:∃ R,R=QAH ⟨r,ss⟩:=⟨_,rfl⟩
 rw [←hR]
 unfold QAH QFD at hR
 unfold maxLen at o1 o2
 dsimp only at *
 by_cases h1:31<ss.length
 ·rw [if_neg (by simp;omega)] at hR
  subst hR
  refine Qaa Tryz.func245 rfl Tryz.ntmps245 Tryz.results245 ⟨by decide,by simp⟩ fun C hC=>?_
  repeat first | refine sp_ ?_ | exact ex0
  exact re0 []
 by_cases h2:255<r.length
 ·rw [if_neg (by simp;omega)] at hR
  subst hR
  refine Qaa Tryz.func245 rfl Tryz.ntmps245 Tryz.results245 ⟨by decide,by simp⟩ fun C hC=>?_
  repeat first | refine sp_ ?_ | exact ex0
  exact re0 []
 rw [if_pos (by simp;omega)] at hR
 have hq:=Qai 4 ss
 have c1:=Qca [] ss (by simp only [List.length_nil];omega) o3
 rw [List.nil_append] at c1
 by_cases hr:r=[]
 ·subst hr
  have hR':R=((ss.length:Int),203,Qah 4 ss):=by rw [hR];simp [QgV]
  subst hR'
  refine Qaa Tryz.func245 rfl Tryz.ntmps245 Tryz.results245 ⟨by decide,by simp⟩ fun C hC=>?_
  repeat first | refine sp_ ?_ | exact ex0
  refine Qac Tryz.call59 c1 [(3,0)] ?_
  repeat first | refine sp_ ?_ | exact ex0
  refine Qac Tryz.call22 (Qa3 (Qah 4 ss) (by omega)) [(3,0)] ?_
  repeat first | refine sp_ ?_ | exact ex0
  exact re0 []
 ·have hb:(r == [])=false:=by simpa using hr
  have hrl:0<r.length:=List.length_pos_iff.2 hr
  have hq2:=Qai 1 [(r.length:Int)]
  simp only [List.length_cons,List.length_nil] at hq2
  have c2:=QdS (Qah 4 ss) [(r.length:Int)] (by simp only [List.length_cons,List.length_nil];omega)
  have c3:=Qei (Qah 4 ss++Qah 1 [(r.length:Int)]) [r] (by simp only [List.length_append,List.flatten_cons,List.flatten_nil,List.append_nil];omega) (by simp)
  have c4:=Qms (Qah 4 ss++Qah 1 [(r.length:Int)]++[r].flatten) 0 (by decide) (by simp only [List.length_append,List.flatten_cons,List.flatten_nil,List.append_nil];omega)
  have e1:Qgh (Qah 4 ss++Qah 1 [(r.length:Int)]++[r].flatten).length 0=Qgh (1+r.length) 0:=Qo4 _ _ _ (by simp only [List.length_append,List.flatten_cons,List.flatten_nil,List.append_nil];omega)
  rw [e1] at c4
  have hpz:=QnF (Qgh (1+r.length) 0)
  have hpz2:Qgh (1+r.length) 0≤4:=by unfold Qgh;omega
  have e2:Qah 4 ss++Qah 1 [(r.length:Int)]++[r].flatten++zer (Qgh (1+r.length) 0)=Qah 4 ss++QgV r:=by unfold QgV;rw [if_neg hr];simp
  have e3:(Qah 4 ss++QgV r).length≤1000:=by rw [←e2];simp only [List.length_append,List.flatten_cons,List.flatten_nil,List.append_nil];omega
  rw [e2] at c4
  subst hR
  refine Qaa Tryz.func245 rfl Tryz.ntmps245 Tryz.results245 ⟨by decide,by simp⟩ fun C hC=>?_
  repeat first | refine sp_ ?_ | exact ex0
  refine Qac Tryz.call59 c1 [(3,0)] ?_
  repeat first | refine sp_ ?_ | exact ex0
  simp only [hb]
  repeat first | refine sp_ ?_ | exact ex0
  refine Qac Tryz.call18 c2 [(3,0)] ?_
  repeat first | refine sp_ ?_ | exact ex0
  refine Qac Tryz.call60 c3 [(3,0)] ?_
  repeat first | refine sp_ ?_ | exact ex0
  refine Qac Tryz.call90 c4 [(3,0)] ?_
  repeat first | refine sp_ ?_ | exact ex0
  refine Qac Tryz.call22 (Qa3 (Qah 4 ss++QgV r) (by omega)) [(3,0)] ?_
  repeat first | refine sp_ ?_ | exact ex0
  exact re0 []
end Go.Proofs.YthfocmakkeonoaaGreatDoor
