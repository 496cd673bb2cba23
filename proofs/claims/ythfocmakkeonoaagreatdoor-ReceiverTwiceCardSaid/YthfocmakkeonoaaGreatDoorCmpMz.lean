/- Package notes: words as pieces; a source in a goodbye; goodbyes and words read. -/
import Derived.Test.YthfocmakkeonoaaGreatDoorNotes2z
import Derived.Test.YthfocmakkeonoaaGreatDoorQCmp07z
import Derived.Test.YthfocmakkeonoaaGreatDoorSl0z
import Derived.Test.YthfocmakkeonoaaGreatDoorSl0z
import Derived.Test.YthfocmakkeonoaaGreatDoorRLz
import Derived.Test.YthfocmakkeonoaaGreatDoorNack2z
set_option linter.unusedVariables false
set_option linter.unusedSimpArgs false
set_option maxRecDepth 100000
set_option maxHeartbeats 16000000
namespace Go.Proofs.YthfocmakkeonoaaGreatDoor
open Go.RowKit
abbrev a9L (a:A9):List V:=[vi a.sub,vu a.src,vs a.name,vs a.data]
structure A9.Ok (a:A9):Prop where
 src:0≤a.src∧a.src<4294967296
 name:a.name.length≤maxLen
 data:a.data.length≤maxLen
theorem Qo6 (a:A9):QFi a=true↔0≤a.sub∧a.sub≤31∧a.name.length=4∧a.data.length % 4=0∧a.data.length≤1024:=by unfold QFi;rw [decide_eq_true_eq]
theorem QAI (a:A9) (h:¬(0≤a.sub∧a.sub≤31∧a.name.length=4∧a.data.length % 4=0∧a.data.length≤1024)):Qq8 a=(0,0,[]):=by unfold Qq8;rw [if_neg fun h2=>h ((Qo6 a).1 h2)]
theorem Qo7 (a:A9) (h:0≤a.sub∧a.sub≤31∧a.name.length=4∧a.data.length % 4=0∧a.data.length≤1024):Qq8 a=(a.sub,204,Qah 4 [a.src]++a.name++a.data):=by unfold Qq8;rw [if_pos ((Qo6 a).2 h)]
theorem Qmt (a:A9) (ho:a.Ok):Qan Tryz.prog 101 [.ca (.val (.agg (a9L a)))] [] (.ca (.val (pcV (Qq8 a)))) []:=by
 obtain ⟨s,c,n,d⟩:=a
 obtain ⟨o1,o2,o3⟩:=ho
 have hno:=QAI ⟨s,c,n,d⟩
 have hyes:=Qo7 ⟨s,c,n,d⟩
 generalize Qq8 ⟨s,c,n,d⟩=R at *
 unfold maxLen at o2 o3
 dsimp only at *
 by_cases h1:s<0
 ·obtain rfl:=hno (by omega)
  refine Qaa Tryz.func101 rfl Tryz.ntmps101 Tryz.results101 ⟨by decide,by simp⟩ fun C hC=>?_
  repeat first | refine sp_ ?_ | exact ex0
  exact re0 []
 by_cases h2:31<s
 ·obtain rfl:=hno (by omega)
  refine Qaa Tryz.func101 rfl Tryz.ntmps101 Tryz.results101 ⟨by decide,by simp⟩ fun C hC=>?_
  repeat first | refine sp_ ?_ | exact ex0
  exact re0 []
 by_cases h3:n.length=4
 ·by_cases h4:d.length % 4=0
  ·have h4':(d.length:Int) % 4=0:=by omega
   by_cases h5:1024<d.length
   ·obtain rfl:=hno (by omega)
    refine Qaa Tryz.func101 rfl Tryz.ntmps101 Tryz.results101 ⟨by decide,by simp⟩ fun C hC=>?_
    repeat first | refine sp_ ?_ | exact ex0
    exact re0 []
   ·obtain rfl:=hyes (by omega)
    have hq:=Qai 4 [c]
    simp only [List.length_cons,List.length_nil] at hq
    have c1:=Qca [] [c] (by simp) (by simpa using o1)
    rw [List.nil_append] at c1
    have c2:=Qei (Qah 4 [c]) [n,d] (by simp only [List.length_append,List.flatten_cons,List.flatten_nil,List.append_nil];omega) (by simp)
    have e:Qah 4 [c]++[n,d].flatten=Qah 4 [c]++n++d:=by simp
    rw [e] at c2
    have c3:=Qa3 (Qah 4 [c]++n++d) (by simp only [List.length_append];omega)
    refine Qaa Tryz.func101 rfl Tryz.ntmps101 Tryz.results101 ⟨by decide,by simp⟩ fun C hC=>?_
    repeat first | refine sp_ ?_ | exact ex0
    refine Qac Tryz.call59 c1 [(3,0)] ?_
    repeat first | refine sp_ ?_ | exact ex0
    refine Qac Tryz.call60 c2 [(3,0)] ?_
    repeat first | refine sp_ ?_ | exact ex0
    refine Qac Tryz.call22 c3 [(3,0)] ?_
    repeat first | refine sp_ ?_ | exact ex0
    exact re0 []
  ·obtain rfl:=hno (by omega)
   have h4':(d.length:Int) % 4≠0:=by omega
   refine Qaa Tryz.func101 rfl Tryz.ntmps101 Tryz.results101 ⟨by decide,by simp⟩ fun C hC=>?_
   repeat first | refine sp_ ?_ | exact ex0
   exact re0 []
 ·obtain rfl:=hno (by omega)
  refine Qaa Tryz.func101 rfl Tryz.ntmps101 Tryz.results101 ⟨by decide,by simp⟩ fun C hC=>?_
  repeat first | refine sp_ ?_ | exact ex0
  exact re0 []
def QbL (p:Pc) (kind:Int) (again:Pc):Int:=if p.2.1≠kind then 5 else if again≠p then 1 else 0
theorem Qxm (p:Pc) (k:Int) (b:Y9) (q:Pc):Qan Tryz.prog 244 [.ca (.val (pcV p)),.ca (.val (vi k)),.ca (.val (.agg (y9L b))),.ca (.val (pcV q))] [] (.ca (.val (.tup [.agg (y9L (if QbL p k q=0 then b else ⟨[],[]⟩)),vi (QbL p k q)]))) []:=by
 obtain ⟨n,c,s⟩:=p
 obtain ⟨n',c',s'⟩:=q
 obtain ⟨r,ss⟩:=b
 by_cases h1:c=k
 ·have hcm:=Quy n' n c' c s' s
  by_cases h2:(n',c',s')=(n,c,s)
  ·have hE:QbL (n,c,s) k (n',c',s')=0:=by unfold QbL;rw [if_neg (by simpa using h1),if_neg (by simpa using h2)]
   rw [hE,if_pos rfl]
   obtain ⟨rfl,rfl,rfl⟩:=h2
   rw [decide_eq_true ⟨rfl,rfl,rfl⟩] at hcm
   refine Qaa Tryz.func244 rfl Tryz.ntmps244 Tryz.results244 ⟨by decide,by simp⟩ fun C hC=>?_
   repeat first | refine sp_ ?_ | exact ex0
   refine Qcn _ _ _ (.inr rfl) ex0 ex0 (by kernel_rfl) hcm ?_
   repeat first | refine sp_ ?_ | exact ex0
   exact re0 []
  ·have hE:QbL (n,c,s) k (n',c',s')=1:=by unfold QbL;rw [if_neg (by simpa using h1),if_pos h2]
   rw [hE,if_neg (by decide)]
   rw [decide_eq_false (fun h=>h2 (by rw [h.1,h.2.1,h.2.2]))] at hcm
   refine Qaa Tryz.func244 rfl Tryz.ntmps244 Tryz.results244 ⟨by decide,by simp⟩ fun C hC=>?_
   repeat first | refine sp_ ?_ | exact ex0
   refine Qcn _ _ _ (.inr rfl) ex0 ex0 (by kernel_rfl) hcm ?_
   repeat first | refine sp_ ?_ | exact ex0
   exact re0 []
 ·have hE:QbL (n,c,s) k (n',c',s')=5:=by unfold QbL;rw [if_pos h1]
  rw [hE,if_neg (by decide)]
  refine Qaa Tryz.func244 rfl Tryz.ntmps244 Tryz.results244 ⟨by decide,by simp⟩ fun C hC=>?_
  repeat first | refine sp_ ?_ | exact ex0
  exact re0 []
theorem Qxn (p:Pc) (k:Int) (b:A9) (q:Pc):Qan Tryz.prog 246 [.ca (.val (pcV p)),.ca (.val (vi k)),.ca (.val (.agg (a9L b))),.ca (.val (pcV q))] [] (.ca (.val (.tup [.agg (a9L (if QbL p k q=0 then b else ⟨0,0,[],[]⟩)),vi (QbL p k q)]))) []:=by
 obtain ⟨n,c,s⟩:=p
 obtain ⟨n',c',s'⟩:=q
 obtain ⟨b1,b2,b3,b4⟩:=b
 by_cases h1:c=k
 ·have hcm:=Quy n' n c' c s' s
  by_cases h2:(n',c',s')=(n,c,s)
  ·have hE:QbL (n,c,s) k (n',c',s')=0:=by unfold QbL;rw [if_neg (by simpa using h1),if_neg (by simpa using h2)]
   rw [hE,if_pos rfl]
   obtain ⟨rfl,rfl,rfl⟩:=h2
   rw [decide_eq_true ⟨rfl,rfl,rfl⟩] at hcm
   refine Qaa Tryz.func246 rfl Tryz.ntmps246 Tryz.results246 ⟨by decide,by simp⟩ fun C hC=>?_
   repeat first | refine sp_ ?_ | exact ex0
   refine Qcn _ _ _ (.inr rfl) ex0 ex0 (by kernel_rfl) hcm ?_
   repeat first | refine sp_ ?_ | exact ex0
   exact re0 []
  ·have hE:QbL (n,c,s) k (n',c',s')=1:=by unfold QbL;rw [if_neg (by simpa using h1),if_pos h2]
   rw [hE,if_neg (by decide)]
   rw [decide_eq_false (fun h=>h2 (by rw [h.1,h.2.1,h.2.2]))] at hcm
   refine Qaa Tryz.func246 rfl Tryz.ntmps246 Tryz.results246 ⟨by decide,by simp⟩ fun C hC=>?_
   repeat first | refine sp_ ?_ | exact ex0
   refine Qcn _ _ _ (.inr rfl) ex0 ex0 (by kernel_rfl) hcm ?_
   repeat first | refine sp_ ?_ | exact ex0
   exact re0 []
 ·have hE:QbL (n,c,s) k (n',c',s')=5:=by unfold QbL;rw [if_pos h1]
  rw [hE,if_neg (by decide)]
  refine Qaa Tryz.func246 rfl Tryz.ntmps246 Tryz.results246 ⟨by decide,by simp⟩ fun C hC=>?_
  repeat first | refine sp_ ?_ | exact ex0
  exact re0 []
theorem QqT (p:Pc) (k:Int) (b:List N9) (q:Pc):Qan Tryz.prog 243 [.ca (.val (pcV p)),.ca (.val (vi k)),.ca (.val (.lst 2 (b.map Qe3))),.ca (.val (pcV q))] [] (.ca (.val (.tup [.lst 2 ((if QbL p k q=0 then b else []).map Qe3),vi (QbL p k q)]))) []:=by
 obtain ⟨n,c,s⟩:=p
 obtain ⟨n',c',s'⟩:=q
 by_cases h1:c=k
 ·have hcm:=Quy n' n c' c s' s
  by_cases h2:(n',c',s')=(n,c,s)
  ·have hE:QbL (n,c,s) k (n',c',s')=0:=by unfold QbL;rw [if_neg (by simpa using h1),if_neg (by simpa using h2)]
   rw [hE,if_pos rfl]
   obtain ⟨rfl,rfl,rfl⟩:=h2
   rw [decide_eq_true ⟨rfl,rfl,rfl⟩] at hcm
   refine Qaa Tryz.func243 rfl Tryz.ntmps243 Tryz.results243 ⟨by decide,by simp⟩ fun C hC=>?_
   repeat first | refine sp_ ?_ | exact ex0
   refine Qcn _ _ _ (.inr rfl) ex0 ex0 (by kernel_rfl) hcm ?_
   repeat first | refine sp_ ?_ | exact ex0
   exact re0 []
  ·have hE:QbL (n,c,s) k (n',c',s')=1:=by unfold QbL;rw [if_neg (by simpa using h1),if_pos h2]
   rw [hE,if_neg (by decide)]
   rw [decide_eq_false (fun h=>h2 (by rw [h.1,h.2.1,h.2.2]))] at hcm
   refine Qaa Tryz.func243 rfl Tryz.ntmps243 Tryz.results243 ⟨by decide,by simp⟩ fun C hC=>?_
   repeat first | refine sp_ ?_ | exact ex0
   refine Qcn _ _ _ (.inr rfl) ex0 ex0 (by kernel_rfl) hcm ?_
   repeat first | refine sp_ ?_ | exact ex0
   exact re0 []
 ·have hE:QbL (n,c,s) k (n',c',s')=5:=by unfold QbL;rw [if_pos h1]
  rw [hE,if_neg (by decide)]
  refine Qaa Tryz.func243 rfl Tryz.ntmps243 Tryz.results243 ⟨by decide,by simp⟩ fun C hC=>?_
  repeat first | refine sp_ ?_ | exact ex0
  exact re0 []
end Go.Proofs.YthfocmakkeonoaaGreatDoor
namespace Go.Proofs.YthfocmakkeonoaaGreatDoor
open Go.RowKit
def QuF:Nat→List UInt8 × Int→List Int
 | 0,_=>[]
 | n+1,x=>vl 4 x::QuF n (nx 4 x)
def Qq9:Nat→List UInt8 × Int→List UInt8 × Int
 | 0,x=>x
 | n+1,x=>Qq9 n (nx 4 x)
theorem Qo8 (n:Nat) (x:List UInt8 × Int):(QuF n x).length=n:=by
 induction n generalizing x with
 | zero=>rfl
 | succ n ih=>simp [QuF,ih]
theorem QAJ (n:Nat) (x:List UInt8 × Int):∀ m∈QuF n x,0≤m∧m<4294967296:=by
 induction n generalizing x with
 | zero=>intro m h;simp [QuF] at h
 | succ n ih=>
  intro m h
  rw [QuF] at h
  rcases List.mem_cons.1 h with rfl | h
  ·exact Qhl 4 4294967296 x (by decide)
  ·exact ih _ m h
theorem Qo9 (n:Nat) (x:List UInt8 × Int):(Qq9 n x).1.length≤x.1.length:=by
 induction n generalizing x with
 | zero=>exact Nat.le_refl _
 | succ n ih=>exact Nat.le_trans (ih _) (QaM 4 x)
def Qho (n:Int):Nat:=(max 0 (min n 32)).toNat
def QqU (p:Pc):Y9:=
 ⟨if (Qq9 (Qho p.1) (p.2.2,0)).1=[] then [] else QbB (nx 1 (Qq9 (Qho p.1) (p.2.2,0))).1 (vl 1 (Qq9 (Qho p.1) (p.2.2,0))),QuF (Qho p.1) (p.2.2,0)⟩
def QkS (p:Pc):Int:=QbL p 203 (QAH (QqU p))
def QqV (p:Pc):Y9:=if QkS p=0 then QqU p else ⟨[],[]⟩
theorem QkT (l:List UInt8) (n:Int):(QbB l n).length≤l.length:=by
 unfold QbB
 split
 ·rw [List.length_take];omega
 ·simp
theorem QAK (p:Pc) (h:p.2.2.length≤maxLen):(QqU p).Ok:=by
 have h1:=Qo9 (Qho p.1) (p.2.2,0)
 refine ⟨?_,?_,QAJ _ _⟩
 ·unfold QqU
  dsimp only
  split
  ·simp
  ·have h2:=QaM 1 (Qq9 (Qho p.1) (p.2.2,0))
   have h3:=QkT (nx 1 (Qq9 (Qho p.1) (p.2.2,0))).1 (vl 1 (Qq9 (Qho p.1) (p.2.2,0)))
   dsimp only at h1
   omega
 ·unfold QqU
  dsimp only
  rw [Qo8]
  unfold Qho maxLen
  omega
theorem QnG (p:Pc) (hp:p.2.2.length≤maxLen):Qan Tryz.prog 225 [.ca (.val (pcV p))] [] (.ca (.val (.tup [.agg (y9L (QqV p)),vi (QkS p)]))) []:=by
 have hok:=QAK p hp
 have c1:=QuE (QqU p) hok
 have c2:=Qxm p 203 (QqU p) (QAH (QqU p))
 have hE:QkS p=QbL p 203 (QAH (QqU p)):=rfl
 have hR:QqV p=if QkS p=0 then QqU p else ⟨[],[]⟩:=rfl
 rw [←hE,←hR] at c2
 clear hE hR
 generalize QkS p=E at *
 generalize QqV p=R at *
 generalize QAH (QqU p)=Q at *
 obtain ⟨n,k,b⟩:=p
 obtain ⟨Y,hY⟩:∃ Y,Y=QqU (n,k,b):=⟨_,rfl⟩
 rw [←hY] at c1 c2
 unfold QqU at hY
 dsimp only at *
 obtain ⟨N,hN⟩:∃ N,N=Qho n:=⟨_,rfl⟩
 have hcn:max 0 (min n 32)=(N:Int):=by unfold Qho at hN;omega
 have hN32:N≤32:=by unfold Qho at hN;omega
 obtain ⟨SS,hSS⟩:∃ x,x=QuF N (b,0):=⟨_,rfl⟩
 obtain ⟨XF,hXF⟩:∃ x,x=Qq9 N (b,0):=⟨_,rfl⟩
 have hsl:SS.length=N:=by rw [hSS,Qo8]
 rw [←hN,←hSS,←hXF] at hY
 have hxl:XF.1.length≤maxLen:=by rw [hXF];exact Nat.le_trans (Qo9 _ _) hp
 obtain ⟨RE,hRE⟩:∃ x,x=if XF.1=[] then [] else QbB (nx 1 XF).1 (vl 1 XF):=⟨_,rfl⟩
 rw [←hRE] at hY
 subst hY
 refine Qaa Tryz.func225 rfl Tryz.ntmps225 Tryz.results225 ⟨by decide,by simp⟩ fun C hC=>?_
 repeat first | refine sp_ ?_ | exact ex0
 refine Qac Tryz.call121 (Qe0 b) [] ?_
 repeat first | refine sp_ ?_ | exact ex0
 refine Qb2 (5,0) 1 (5,2) 27 1 ?_
 refine sx_ ?_
 refine QaD (α:={y:Nat × (List UInt8 × Int) × List Int // y.1≤N∧y.2.1.1.length≤maxLen∧y.2.2.length=y.1∧y.2.2++QuF (N-y.1) y.2.1=SS∧Qq9 (N-y.1) y.2.1=XF}) (fun y=>[(.s 1,.av (.ptr (1,0) 0 0)),(.o (1,0),.num 3),(.c (1,0) 0,.av (.val (vi n))),(.c (1,0) 1,.av (.val (vi k))),(.c (1,0) 2,.av (.val (vs b))),(.s 2,.av (.ptr (2,0) 0 0)),(.o (2,0),.num 2),(.s 4,.av (.ptr (8,0) 0 0)),(.o (8,0),.num 2),(.c (8,0) 0,.av (.val (vs y.1.2.1.1))),(.c (8,0) 1,.av (.val (vi y.1.2.1.2))),(.s 5,.av (.ptr (5,0) 0 0)),(.o (5,0),.num 2),(.c (5,0) 0,.av (.val (vs []))),(.c (5,0) 1,.av (.own (5,2) 0 27 1 (y.1.2.2.map QdJ))),(.k (5,2),.row 27 1 y.1.2.2.length),(.s 12,.av (.val (vi N))),(.s 13,.av (.val (vi y.1.1)))]) (fun y=>N-y.1.1) ⟨(0,(b,0),[]),Nat.zero_le _,hp,rfl,hSS.symm,hXF.symm⟩ ?_ (fun y=>?_)
 ·simp only [List.map_nil]
  refine sx_ ?_
  exact hcn
 ·obtain ⟨⟨j,x,acc⟩,hj,hxl',hac,hb1,hb2⟩:=y
  dsimp only at hj hxl' hac hb1 hb2 ⊢
  by_cases hlt:j<N
  ·have c3:=Qmy x hxl'
   have hnl:=Nat.le_trans (QaM 4 x) hxl'
   obtain ⟨m,hm⟩:∃ m,N-j=m+1:=⟨N-j-1,by omega⟩
   have hm2:N-(j+1)=m:=by omega
   rw [hm] at hb1 hb2
   rw [QuF] at hb1
   rw [Qq9] at hb2
   repeat first | refine sp_ ?_ | exact ex0
   refine Qac Tryz.call124 c3 [(8,0)] ?_
   repeat first | refine sp_ ?_ | exact ex0
   refine Qau ⟨(j+1,nx 4 x,acc++[vl 4 x]),hlt,hnl,by simp [hac],by dsimp only;rw [hm2,List.append_assoc];exact hb1,by dsimp only;rw [hm2];exact hb2⟩ ⟨?_,by dsimp only;omega⟩
   refine sx_ ?_
   rw [List.map_append];rfl
  ·have hjN:N-j=0:=by omega
   rw [hjN] at hb1 hb2
   simp only [QuF,Qq9,List.append_nil] at hb1 hb2
   clear hSS hXF
   subst hb1 hb2
   by_cases hx0:x.1=[]
   ·rw [if_pos hx0] at hRE
    subst hRE
    have hx0':x.1.length=0:=by rw [hx0];rfl
    repeat first | refine sp_ ?_ | exact ex0
    refine Qac Tryz.call126 (Qcz x.1 x.2) [(8,0)] ?_
    repeat first | refine sp_ ?_ | exact ex0
    refine Qac Tryz.call245 c1 [] ?_
    repeat first | refine sp_ ?_ | exact ex0
    refine Qac Tryz.call244 c2 [] ?_
    repeat first | refine sp_ ?_ | exact ex0
    exact re0 []
   ·rw [if_neg hx0] at hRE
    have hx0':0<x.1.length:=List.length_pos_iff.2 hx0
    have v1:=Qhl 1 256 x (by decide)
    have c4:=rd8 x hxl'
    have hnl:=Nat.le_trans (QaM 1 x) hxl'
    have c5:=Qe1 (nx 1 x).1 (nx 1 x).2 (vl 1 x) hnl (by unfold maxLen;omega)
    rw [←hRE] at c5
    repeat first | refine sp_ ?_ | exact ex0
    refine Qac Tryz.call126 (Qcz x.1 x.2) [(8,0)] ?_
    repeat first | refine sp_ ?_ | exact ex0
    refine Qac Tryz.call122 c4 [(8,0)] ?_
    repeat first | refine sp_ ?_ | exact ex0
    refine Qac Tryz.call125 c5 [(8,0)] ?_
    repeat first | refine sp_ ?_ | exact ex0
    refine Qac Tryz.call245 c1 [] ?_
    repeat first | refine sp_ ?_ | exact ex0
    refine Qac Tryz.call244 c2 [] ?_
    repeat first | refine sp_ ?_ | exact ex0
    exact re0 []
end Go.Proofs.YthfocmakkeonoaaGreatDoor
namespace Go.Proofs.YthfocmakkeonoaaGreatDoor
open Go.RowKit
def Qra (p:Pc):A9:=⟨p.1,vl 4 (p.2.2,0),QbB (nx 4 (p.2.2,0)).1 4,(nx 4 (nx 4 (p.2.2,0))).1⟩
def QkX (p:Pc):Int:=QbL p 204 (Qq8 (Qra p))
def Qhf (p:Pc):A9:=if QkX p=0 then Qra p else ⟨0,0,[],[]⟩
theorem Qxo (l:List UInt8):QbB l l.length=l:=by unfold QbB;rw [if_pos (Int.le_refl _)];simp
theorem Qxp (l:List UInt8) (n:Int):(QbB l n).length≤n.toNat:=by
 unfold QbB
 split
 ·rw [List.length_take];omega
 ·simp
theorem QAL (p:Pc) (h:p.2.2.length≤maxLen):(Qra p).Ok:=by
 have h1:=QaM 4 (p.2.2,0)
 have h2:=QaM 4 (nx 4 (p.2.2,0))
 have h3:=QkT (nx 4 (p.2.2,0)).1 4
 refine ⟨Qhl 4 4294967296 _ (by decide),?_,?_⟩
 ·unfold Qra;dsimp only at *;omega
 ·unfold Qra;dsimp only at *;omega
theorem QnH (p:Pc) (hp:p.2.2.length≤maxLen):Qan Tryz.prog 227 [.ca (.val (pcV p))] [] (.ca (.val (.tup [.agg (a9L (Qhf p)),vi (QkX p)]))) []:=by
 have hok:=QAL p hp
 have c1:=Qmt (Qra p) hok
 have c2:=Qxn p 204 (Qra p) (Qq8 (Qra p))
 have hE:QkX p=QbL p 204 (Qq8 (Qra p)):=rfl
 have hR:Qhf p=if QkX p=0 then Qra p else ⟨0,0,[],[]⟩:=rfl
 rw [←hE,←hR] at c2
 clear hE hR
 generalize QkX p=E at *
 generalize Qhf p=R at *
 generalize Qq8 (Qra p)=Q at *
 obtain ⟨n,k,b⟩:=p
 have c3:=Qmy (b,0) hp
 have l1:=Nat.le_trans (QaM 4 (b,0)) hp
 have c4:=Qe1 (nx 4 (b,0)).1 (nx 4 (b,0)).2 4 l1 (by decide)
 have e4:(Qct (nx 4 (b,0)).1 (nx 4 (b,0)).2 4)=(nx 4 (nx 4 (b,0))).1:=rfl
 have e5:(QdY (nx 4 (b,0)).1 (nx 4 (b,0)).2 4)=(nx 4 (nx 4 (b,0))).2:=rfl
 rw [e4,e5] at c4
 have l2:=Nat.le_trans (QaM 4 (nx 4 (b,0))) l1
 have c5:=Qe1 (nx 4 (nx 4 (b,0))).1 (nx 4 (nx 4 (b,0))).2 (nx 4 (nx 4 (b,0))).1.length l2 (by omega)
 rw [Qxo] at c5
 unfold Qra at c1 c2
 dsimp only at *
 generalize vl 4 (b,0)=src at *
 generalize QbB (nx 4 (b,0)).1 4=name at *
 generalize nx 4 (nx 4 (b,0))=x2 at *
 generalize nx 4 (b,0)=x1 at *
 refine Qaa Tryz.func227 rfl Tryz.ntmps227 Tryz.results227 ⟨by decide,by simp⟩ fun C hC=>?_
 repeat first | refine sp_ ?_ | exact ex0
 refine Qac Tryz.call121 (Qe0 b) [] ?_
 repeat first | refine sp_ ?_ | exact ex0
 refine Qac Tryz.call124 c3 [(8,0)] ?_
 repeat first | refine sp_ ?_ | exact ex0
 refine Qac Tryz.call125 c4 [(8,0)] ?_
 repeat first | refine sp_ ?_ | exact ex0
 refine Qac Tryz.call126 (Qcz x2.1 x2.2) [(8,0)] ?_
 repeat first | refine sp_ ?_ | exact ex0
 refine Qac Tryz.call125 c5 [(8,0)] ?_
 repeat first | refine sp_ ?_ | exact ex0
 refine Qac Tryz.call101 c1 [] ?_
 repeat first | refine sp_ ?_ | exact ex0
 refine Qac Tryz.call246 c2 [] ?_
 repeat first | refine sp_ ?_ | exact ex0
 exact re0 []
def nxr (n:Int) (x:List UInt8 × Int):List UInt8 × Int:=(Qct x.1 x.2 n,QdY x.1 x.2 n)
theorem QnI (n:Int) (x:List UInt8 × Int):(nxr n x).1.length≤x.1.length:=by
 unfold nxr Qct Qhk
 dsimp only
 split
 ·simp
 ·split <;> simp
theorem QDj (x:List UInt8 × Int) (n:Int) (hl:x.1.length≤maxLen) (hn:0≤n∧n≤maxLen):Qan Tryz.prog 125 [.ptr 0 0,.ca (.val (vi n))] [inO x.1 x.2] (.ca (.val (vs (QbB x.1 n)))) [inO (nxr n x).1 (nxr n x).2]:=Qe1 x.1 x.2 n hl hn
def rdN (x:List UInt8 × Int):N9:=⟨vl 4 x,QbB (nx 1 (nx 1 (nx 4 x))).1 (vl 1 (nx 1 (nx 4 x)))⟩
def nxN (x:List UInt8 × Int):List UInt8 × Int:=nxr (4-((rdN x).text.length+2) % 4) (nxr (vl 1 (nx 1 (nx 4 x))) (nx 1 (nx 1 (nx 4 x))))
def Qpa:Nat→List UInt8 × Int→List N9→List N9
 | 0,_,acc=>acc
 | f+1,x,acc=>if x.1=[] then acc else Qpa f (nxN x) (acc++[rdN x])
def Qxq (p:Pc):List N9:=Qpa 32 (p.2.2,0) []
def QbT (p:Pc):Int:=QbL p 202 (QdU (Qxq p))
def Qa5 (p:Pc):List N9:=if QbT p=0 then Qxq p else []
theorem QuG (x:List UInt8 × Int):(nxN x).1.length≤x.1.length:=by
 unfold nxN
 exact Nat.le_trans (QnI _ _) (Nat.le_trans (QnI _ _) (Nat.le_trans (QaM _ _) (Nat.le_trans (QaM _ _) (QaM _ _))))
theorem Qyo (x:List UInt8 × Int) (h:x.1.length≤maxLen):(rdN x).Ok:=by
 refine ⟨Qhl 4 4294967296 _ (by decide),?_⟩
 have h1:=QkT (nx 1 (nx 1 (nx 4 x))).1 (vl 1 (nx 1 (nx 4 x)))
 have h2:=Nat.le_trans (QaM 1 (nx 1 (nx 4 x))) (Nat.le_trans (QaM 1 (nx 4 x)) (QaM 4 x))
 unfold rdN
 dsimp only
 omega
theorem QkU (p:Pc) (hp:p.2.2.length≤maxLen):Qan Tryz.prog 223 [.ca (.val (pcV p))] [] (.ca (.val (.tup [.lst 2 ((Qa5 p).map Qe3),vi (QbT p)]))) []:=by
 have c2:=QqT p 202 (Qxq p) (QdU (Qxq p))
 have hE:QbT p=QbL p 202 (QdU (Qxq p)):=rfl
 have hR:Qa5 p=if QbT p=0 then Qxq p else []:=rfl
 rw [←hE,←hR] at c2
 clear hE hR
 generalize QbT p=E at *
 generalize Qa5 p=R at *
 obtain ⟨n,k,b⟩:=p
 obtain ⟨L,hL⟩:∃ L,L=Qpa 32 (b,0) []:=⟨_,rfl⟩
 have hL2:Qxq (n,k,b)=L:=hL.symm
 rw [hL2] at c2
 clear hL2
 dsimp only at hp
 refine Qaa Tryz.func223 rfl Tryz.ntmps223 Tryz.results223 ⟨by decide,by simp⟩ fun C hC=>?_
 repeat first | refine sp_ ?_ | exact ex0
 refine Qac Tryz.call121 (Qe0 b) [] ?_
 repeat first | refine sp_ ?_ | exact ex0
 refine Qij 5 (5,0) 126 2 ?_
 refine sx_ ?_
 refine QaD (α:={y:(List UInt8 × Int) × List N9 // y.1.1.length≤maxLen∧y.2.length≤32∧(∀ a∈y.2,a.Ok)∧Qpa (32-y.2.length) y.1 y.2=L}) (fun y=>[(.s 1,.av (.ptr (1,0) 0 0)),(.o (1,0),.num 3),(.c (1,0) 0,.av (.val (vi n))),(.c (1,0) 1,.av (.val (vi k))),(.c (1,0) 2,.av (.val (vs b))),(.s 4,.av (.ptr (9,0) 0 0)),(.o (9,0),.num 2),(.c (9,0) 0,.av (.val (vs y.1.1.1))),(.c (9,0) 1,.av (.val (vi y.1.1.2))),(.s 5,.av (.own (5,0) 0 126 2 (y.1.2.map Qe3))),(.k (5,0),.row 126 2 y.1.2.length)]) (fun y=>32-y.1.2.length) ⟨((b,0),[]),hp,by simp,fun a h=>by simp at h,hL.symm⟩ ?_ (fun y=>?_)
 ·simp only [List.map_nil]
  exact ex0
 ·obtain ⟨⟨x,acc⟩,hxl,hal,hao,hrun⟩:=y
  dsimp only at hxl hal hao hrun ⊢
  have cE:∀ (h:acc=L),Qan Tryz.prog 39 [.ca (.val (.lst 2 (acc.map Qe3)))] [] (.ca (.val (pcV (QdU L)))) []:=fun h=>by
   rw [←h]
   exact Qi0 acc (by unfold maxLen;omega) hao
  by_cases hx0:x.1=[]
  ·have hLa:acc=L:=by
    rw [←hrun]
    cases h32:32-acc.length with
    | zero=>rfl
    | succ f=>rw [Qpa,if_pos hx0]
   have c1:=cE hLa
   clear hL cE
   subst hLa
   have hx0':x.1.length=0:=by rw [hx0];rfl
   generalize QdU acc=Q at *
   repeat first | refine sp_ ?_ | exact ex0
   refine Qac Tryz.call126 (Qcz x.1 x.2) [(9,0)] ?_
   repeat first | refine sp_ ?_ | exact ex0
   refine Qac Tryz.call39 c1 [] ?_
   repeat first | refine sp_ ?_ | exact ex0
   refine Qac Tryz.call243 c2 [] ?_
   repeat first | refine sp_ ?_ | exact ex0
   exact re0 []
  have hx0':0<x.1.length:=List.length_pos_iff.2 hx0
  by_cases h31:acc.length≤31
  ·obtain ⟨f,hf⟩:∃ f,32-acc.length=f+1:=⟨31-acc.length,by omega⟩
   rw [hf,Qpa,if_neg hx0] at hrun
   have hf2:32-(acc++[rdN x]).length=f:=by simp;omega
   have hxn:=Nat.le_trans (QuG x) hxl
   have hro:=Qyo x hxl
   have v1:=Qhl 1 256 (nx 1 (nx 4 x)) (by decide)
   have t1:=QkT (nx 1 (nx 1 (nx 4 x))).1 (vl 1 (nx 1 (nx 4 x)))
   have t2:(rdN x).text.length≤255:=Nat.le_trans (Qxp _ _) (by omega)
   have c3:=Qmy x hxl
   have l1:=Nat.le_trans (QaM 4 x) hxl
   have c4:=rd8 (nx 4 x) l1
   have l2:=Nat.le_trans (QaM 1 (nx 4 x)) l1
   have c5:=rd8 (nx 1 (nx 4 x)) l2
   have l3:=Nat.le_trans (QaM 1 (nx 1 (nx 4 x))) l2
   have c6:=QDj (nx 1 (nx 1 (nx 4 x))) (vl 1 (nx 1 (nx 4 x))) l3 (by unfold maxLen;omega)
   have l4:=Nat.le_trans (QnI (vl 1 (nx 1 (nx 4 x))) (nx 1 (nx 1 (nx 4 x)))) l3
   have c7:=QDj (nxr (vl 1 (nx 1 (nx 4 x))) (nx 1 (nx 1 (nx 4 x)))) (4-((rdN x).text.length+2) % 4) l4 (by unfold maxLen;omega)
   have e7:nxr (4-((rdN x).text.length+2) % 4) (nxr (vl 1 (nx 1 (nx 4 x))) (nx 1 (nx 1 (nx 4 x))))=nxN x:=rfl
   rw [e7] at c7
   have e8:(rdN x).text=QbB (nx 1 (nx 1 (nx 4 x))).1 (vl 1 (nx 1 (nx 4 x))):=rfl
   have e9:(rdN x).src=vl 4 x:=rfl
   rw [←e8] at c6 t1
   rw [←e9] at c3
   obtain ⟨ho1,ho2⟩:=hro
   have hro:(rdN x).Ok:=⟨ho1,ho2⟩
   generalize rdN x=y at *
   generalize nxN x=x5 at *
   unfold maxLen at ho2
   repeat first | refine sp_ ?_ | exact ex0
   refine Qac Tryz.call126 (Qcz x.1 x.2) [(9,0)] ?_
   repeat first | refine sp_ ?_ | exact ex0
   refine Qac Tryz.call124 c3 [(9,0)] ?_
   repeat first | refine sp_ ?_ | exact ex0
   refine Qac Tryz.call122 c4 [(9,0)] ?_
   repeat first | refine sp_ ?_ | exact ex0
   refine Qac Tryz.call122 c5 [(9,0)] ?_
   repeat first | refine sp_ ?_ | exact ex0
   refine Qac Tryz.call125 c6 [(9,0)] ?_
   repeat first | refine sp_ ?_ | exact ex0
   refine Qac Tryz.call125 c7 [(9,0)] ?_
   repeat first | refine sp_ ?_ | exact ex0
   have hao2:∀ a∈acc++[y],a.Ok:=fun a ha=>by
    rcases List.mem_append.1 ha with h | h
    ·exact hao a h
    ·rw [List.mem_singleton.1 h];exact hro
   have hal2:(acc++[y]).length=acc.length+1:=by simp
   refine Qau ⟨(x5,acc++[y]),hxn,by dsimp only;omega,hao2,by dsimp only;rw [hf2];exact hrun⟩ ⟨?_,by dsimp only;omega⟩
   refine sx_ ?_
   rw [List.map_append];rfl
  ·have h32:32-acc.length=0:=by omega
   rw [h32] at hrun
   have hLa:acc=L:=hrun
   have c1:=cE hLa
   clear hL cE
   subst hLa
   generalize QdU acc=Q at *
   repeat first | refine sp_ ?_ | exact ex0
   refine Qac Tryz.call126 (Qcz x.1 x.2) [(9,0)] ?_
   repeat first | refine sp_ ?_ | exact ex0
   refine Qac Tryz.call39 c1 [] ?_
   repeat first | refine sp_ ?_ | exact ex0
   refine Qac Tryz.call243 c2 [] ?_
   repeat first | refine sp_ ?_ | exact ex0
   exact re0 []
end Go.Proofs.YthfocmakkeonoaaGreatDoor
namespace Go.Proofs.YthfocmakkeonoaaGreatDoor
open Go.RowKit
end Go.Proofs.YthfocmakkeonoaaGreatDoor
namespace Go.Proofs.YthfocmakkeonoaaGreatDoor
open Go.RowKit
def QFk (b:Bool):List V:=[vi b.toNat]
attribute [go_sem] QFk
end Go.Proofs.YthfocmakkeonoaaGreatDoor
namespace Go.Proofs.YthfocmakkeonoaaGreatDoor
open Go.RowKit
def Qjm:List UInt8:=[99,115,117,109]
def QcA (p:Pc):Int:=
 if ofE p=0 then 1 else if QbT p=0 then 2 else if QkS p=0 then 3 else if QkX p=0 then 4 else if Qep p=0 then 5 else if QcF p=0 then 6 else if QnA p=0 then 7 else 0
def QbR (p:Pc):Int:=
 if ofE p=0 then 1 else if QbT p=0∧Qa5 p≠[] then 2 else if QkS p=0 then 3 else if QkX p=0∧(Qhf p).name≠Qjm then 4
 else if Qep p=0 then 5 else if QcF p=0 then 6 else if QnA p=0 then 7 else 0
theorem Qi1 {p q:Pc} {k:Int} (h:QbL p k q=0):p.2.1=k∧q=p:=by
 unfold QbL at h
 split at h
 ·cases h
 ·split at h
  ·cases h
  ·rename_i h1 h2
   exact ⟨Classical.not_not.1 h1,Classical.not_not.1 h2⟩
theorem QqW {p:Pc} (h:Qep p=0):p.2.1=205:=by
 unfold Qep at h
 split at h
 ·cases h
 ·omega
theorem QnJ {p:Pc} (h:QcF p=0):p.2.1=211:=by
 unfold QcF at h
 split at h
 ·cases h
 ·omega
theorem QuH {p:Pc} (h:QnA p=0):p.2.1=211:=by
 unfold QnA at h
 split at h
 ·cases h
 ·omega
theorem QjW (p:Pc):(QcA p=1∧ofE p=0)∨(QcA p=2∧ofE p≠0∧QbT p=0)∨(QcA p=3∧ofE p≠0∧QbT p≠0∧QkS p=0)∨(QcA p=4∧ofE p≠0∧QbT p≠0∧QkS p≠0∧QkX p=0) ∨
  (QcA p=5∧ofE p≠0∧QbT p≠0∧QkS p≠0∧QkX p≠0∧Qep p=0)∨(QcA p=6∧ofE p≠0∧QbT p≠0∧QkS p≠0∧QkX p≠0∧Qep p≠0∧QcF p=0) ∨
  (QcA p=7∧ofE p≠0∧QbT p≠0∧QkS p≠0∧QkX p≠0∧Qep p≠0∧QcF p≠0∧QnA p=0)∨(QcA p=0∧ofE p≠0∧QbT p≠0∧QkS p≠0∧QkX p≠0∧Qep p≠0∧QcF p≠0∧QnA p≠0):=by
 unfold QcA
 by_cases h1:ofE p=0
 ·simp [h1]
 by_cases h2:QbT p=0
 ·simp [h1,h2]
 by_cases h3:QkS p=0
 ·simp [h1,h2,h3]
 by_cases h4:QkX p=0
 ·simp [h1,h2,h3,h4]
 by_cases h5:Qep p=0
 ·simp [h1,h2,h3,h4,h5]
 by_cases h6:QcF p=0
 ·simp [h1,h2,h3,h4,h5,h6]
 by_cases h7:QnA p=0
 ·simp [h1,h2,h3,h4,h5,h6,h7]
 ·simp [h1,h2,h3,h4,h5,h6,h7]
theorem Qgi (p:Pc):QbR p=if (QcA p=2∧Qa5 p=[])∨(QcA p=4∧(Qhf p).name=Qjm) then 0 else QcA p:=by
 have k2:QbT p=0→p.2.1=202:=fun h=>(Qi1 h).1
 have k3:QkS p=0→p.2.1=203:=fun h=>(Qi1 h).1
 have k4:QkX p=0→p.2.1=204:=fun h=>(Qi1 h).1
 have k5:=@QqW p
 have k6:=@QnJ p
 have k7:=@QuH p
 unfold QbR
 rcases QjW p with ⟨h,h1⟩ | ⟨h,h1,h2⟩ | ⟨h,h1,h2,h3⟩ | ⟨h,h1,h2,h3,h4⟩ | ⟨h,h1,h2,h3,h4,h5⟩ | ⟨h,h1,h2,h3,h4,h5,h6⟩ | ⟨h,h1,h2,h3,h4,h5,h6,h7⟩ | ⟨h,h1,h2,h3,h4,h5,h6,h7⟩
 ·rw [h,if_pos h1,if_neg (by omega)]
 ·have hk:=k2 h2
  rw [h,if_neg h1]
  by_cases hn:Qa5 p=[]
  ·rw [if_neg (fun h=>h.2 hn),if_neg (fun h=>by have:=k3 h;omega),if_neg (fun h=>by have:=k4 h.1;omega),if_neg (fun h=>by have:=k5 h;omega),if_neg (fun h=>by have:=k6 h;omega),if_neg (fun h=>by have:=k7 h;omega),if_pos (.inl ⟨rfl,hn⟩)]
  ·rw [if_pos ⟨h2,hn⟩,if_neg (by simp [hn])]
 ·rw [h,if_neg h1,if_neg (fun h=>h2 h.1),if_pos h3,if_neg (by omega)]
 ·have hk:=k4 h4
  rw [h,if_neg h1,if_neg (fun h=>h2 h.1),if_neg h3]
  by_cases hn:(Qhf p).name=Qjm
  ·rw [if_neg (fun h=>h.2 hn),if_neg (fun h=>by have:=k5 h;omega),if_neg (fun h=>by have:=k6 h;omega),if_neg (fun h=>by have:=k7 h;omega),if_pos (.inr ⟨rfl,hn⟩)]
  ·rw [if_pos ⟨h4,hn⟩,if_neg (by simp [hn])]
 ·rw [h,if_neg h1,if_neg (fun h=>h2 h.1),if_neg h3,if_neg (fun h=>h4 h.1),if_pos h5,if_neg (by omega)]
 ·rw [h,if_neg h1,if_neg (fun h=>h2 h.1),if_neg h3,if_neg (fun h=>h4 h.1),if_neg h5,if_pos h6,if_neg (by omega)]
 ·rw [h,if_neg h1,if_neg (fun h=>h2 h.1),if_neg h3,if_neg (fun h=>h4 h.1),if_neg h5,if_neg h6,if_pos h7,if_neg (by omega)]
 ·rw [h,if_neg h1,if_neg (fun h=>h2 h.1),if_neg h3,if_neg (fun h=>h4 h.1),if_neg h5,if_neg h6,if_neg h7,if_neg (by omega)]
structure Bag12 where
 reports:List R8
 names:List N9
 byes:List Y9
 apps:List A9
 nacks:List N10
 lines:List R11
 ads:List S11
def QqX:Bag12:=⟨[],[],[],[],[],[],[]⟩
def QbI (B:Bag12) (p:Pc):Bag12:=
 ⟨B.reports++(if QcA p=1 then [ofR p] else []),B.names++(if QcA p=2 then Qa5 p else []),B.byes++(if QcA p=3 then [QqV p] else []),
  B.apps++(if QcA p=4∧(Qhf p).name≠Qjm then [Qhf p] else []),B.nacks++(if QcA p=5 then [QgT p] else []),B.lines++(if QcA p=6 then [Qdx p] else []),B.ads++(if QcA p=7 then [QqH p] else [])⟩
def QaX (ps:List Pc):Bag12:=ps.foldl QbI QqX
theorem QqY (ps:List Pc) (p:Pc):QaX (ps++[p])=QbI (QaX ps) p:=by simp [QaX]
theorem QuI (ps:List Pc):QaX ps=⟨ps.flatMap fun p=>if QcA p=1 then [ofR p] else [],ps.flatMap fun p=>if QcA p=2 then Qa5 p else [],ps.flatMap fun p=>if QcA p=3 then [QqV p] else [],
  ps.flatMap fun p=>if QcA p=4∧(Qhf p).name≠Qjm then [Qhf p] else [],ps.flatMap fun p=>if QcA p=5 then [QgT p] else [],ps.flatMap fun p=>if QcA p=6 then [Qdx p] else [],ps.flatMap fun p=>if QcA p=7 then [QqH p] else []⟩:=by
 have key:∀ (qs:List Pc) (B:Bag12),qs.foldl QbI B=⟨B.reports++qs.flatMap fun p=>if QcA p=1 then [ofR p] else [],B.names++qs.flatMap fun p=>if QcA p=2 then Qa5 p else [],B.byes++qs.flatMap fun p=>if QcA p=3 then [QqV p] else [],
   B.apps++qs.flatMap fun p=>if QcA p=4∧(Qhf p).name≠Qjm then [Qhf p] else [],B.nacks++qs.flatMap fun p=>if QcA p=5 then [QgT p] else [],B.lines++qs.flatMap fun p=>if QcA p=6 then [Qdx p] else [],B.ads++qs.flatMap fun p=>if QcA p=7 then [QqH p] else []⟩:=by
  intro qs
  induction qs with
  | nil=>intro B;simp
  | cons q qs ih=>
   intro B
   rw [List.foldl_cons,ih]
   simp only [QbI,List.flatMap_cons,List.append_assoc]
 unfold QaX
 rw [key]
 rfl
def Qjn (ps:List Pc) (i:Nat):Prop:=∃ h:i<ps.length,(i=0∧QbR ps[i]≠1)∨(QbR ps[i]=3∧i+1<ps.length)
def QdN (ps:List Pc):Prop:=ps≠[]∧ps.all Qq6=true∧(∀ i,¬Qjn ps i)∧∃ p∈ps,QbR p=2
open Classical in
noncomputable def Qyp (ps:List Pc):Int:=if ¬QdN ps then 1 else if ∃ p∈ps,QbR p=0 then 5 else if 1500<(Qcc ps).length+16 then 3 else 0
theorem QuJ {ps:List Pc} (h:¬QdN ps):Qyp ps=1:=by unfold Qyp;rw [if_pos h]
def Qyq (d:List UInt8):Pc:=(0,204,[0,0,0,0]++Qjm++d)
end Go.Proofs.YthfocmakkeonoaaGreatDoor
