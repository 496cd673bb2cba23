/- Package slices at what is wanting: looked for, taken out. -/
import Derived.Test.YthfocmakkeonoaaGreatDoorSl0z
import Derived.Test.YthfocmakkeonoaaGreatDoorRPz
import Derived.Test.YthfocmakkeonoaaGreatDoorRVz
import Derived.Test.YthfocmakkeonoaaGreatDoorQInz
import Derived.Shelf.Strings.Builder1
import Derived.Test.YthfocmakkeonoaaGreatDoorProg
set_option linter.unusedVariables false
set_option linter.unusedSimpArgs false
set_option maxRecDepth 100000
set_option maxHeartbeats 16000000
namespace Go.Proofs.YthfocmakkeonoaaGreatDoor
open Go.RowKit
theorem Qz0 (es:List (List V)) (t:Int) (K:FuncId) (hK:∀ args w,(callFunc K args).run Tryz.prog w=.ok (.enter K args) w) (c:Nat→Int) (hl:es.length≤1000000) (hsz:∀ r∈es,r.length=4)
  (hc:∀ i (h:i<es.length),Qan Tryz.prog K [.ca (.val (.agg es[i])),.ca (.val (vi t))] [] (.ca (.val (vi (c i)))) []) (hm:∀ i j,i≤j→j<es.length→0≤c i→0≤c j) :
  Qan Tryz.prog 133 [.ca (.val (.lst 4 es)),.ca (.val (vi t)),.fn K []] [] (.ca (.val (.tup [vi (Qdv c es.length),vb (decide (Qdv c es.length<es.length) && decide (c (Qdv c es.length)=0))]))) []:=by
 refine Qaa Tryz.func133 rfl Tryz.ntmps133 Tryz.results133 ⟨by decide,by simp⟩ fun C hC=>?_
 (repeat' ((fail_if_success (refine Qat 3 ?_));(first | refine sp_ ?_ | exact ex0 | exact re0 [])))
 refine QaD (α:={x:Nat × Nat // x.1≤x.2∧x.2≤es.length∧(∀ k,k<x.1→c k<0)∧(∀ k,x.2≤k→k<es.length→0≤c k)}) (fun x=>[(.s 0,.av (.val (.lst 4 es))),(.s 1,.av (.val (vi t))),(.s 2,.av (.fn K [])),(.s 8,.av (.val (vi es.length))),(.s 9,.av (.val (vi x.1.1))),(.s 10,.av (.val (vi x.1.2)))]) (fun x=>x.1.2-x.1.1) ⟨(0,es.length),Nat.zero_le _,Nat.le_refl _,fun k h=>by omega,fun k a b=>by omega⟩ ?_ (fun x=>?_)
 ·exact ex0
 ·obtain ⟨⟨i,j⟩,h1,h2,h3,h4⟩:=x
  dsimp only at h1 h2 h3 h4 ⊢
  by_cases hij:i<j
  ·have hh:(i+j) / 2<es.length:=by omega
   obtain ⟨h,hh0⟩:∃ h,h=(i+j) / 2:=⟨_,rfl⟩
   rw [←hh0] at hh
   have hch:=hc h hh
   have hl3:=hsz _ (List.getElem_mem hh)
   have hi1:(((i:Int)+(j:Int)) / 2).toNat=h:=by omega
   have hi2:((i:Int)+(j:Int)) / 2=(h:Int):=by omega
   have hge:es.getD h []=es[h]:=by simp [hh]
   have htk:es[h].take 4=es[h]:=List.take_of_length_le (by omega)
   repeat' first | refine sp_ ?_ | exact ex0 | exact re0 []
   simp only [hi1,hge,htk]
   refine ⟨by omega,?_⟩
   refine Qci hK [] hch ex0 ?_
   by_cases hneg:c h<0
   ·repeat' first | refine sp_ ?_ | exact ex0 | exact re0 []
    refine Qau (α:={x:Nat × Nat // x.1≤x.2∧x.2≤es.length∧(∀ k,k<x.1→c k<0)∧(∀ k,x.2≤k→k<es.length→0≤c k)}) ⟨(h+1,j),by dsimp only;omega,h2,fun k hk=>?_,h4⟩ ⟨?_,by dsimp only;omega⟩
    ·dsimp only at hk
     by_cases hki:k<i
     ·exact h3 k hki
     ·exact Int.not_le.1 fun h0=>absurd (hm k h (by omega) hh h0) (by omega)
    ·refine sx_ ?_
     omega
   ·repeat' first | refine sp_ ?_ | exact ex0 | exact re0 []
    refine Qau (α:={x:Nat × Nat // x.1≤x.2∧x.2≤es.length∧(∀ k,k<x.1→c k<0)∧(∀ k,x.2≤k→k<es.length→0≤c k)}) ⟨(i,h),by dsimp only;omega,by dsimp only;omega,h3,fun k hk hk2=>hm h k hk hk2 (by omega)⟩ ⟨?_,by dsimp only;omega⟩
    refine sx_ ?_
    omega
  ·obtain rfl:j=i:=by omega
   have hf:=Qf8 c es.length j h2 h3 h4
   rw [hf]
   by_cases hn:j<es.length
   ·have hcj:=hc j hn
    have hl3:=hsz _ (List.getElem_mem hn)
    have hge:es.getD j []=es[j]:=by simp [hn]
    have htk:es[j].take 4=es[j]:=List.take_of_length_le (by omega)
    rw [decide_eq_true hn,Bool.true_and]
    repeat' first | refine sp_ ?_ | exact ex0 | exact re0 []
    simp only [hge,htk]
    refine ⟨by omega,?_⟩
    refine Qci hK [] hcj ex0 ?_
    by_cases h0:c j=0
    ·rw [decide_eq_true h0]
     repeat' first | refine sp_ ?_ | exact ex0 | exact re0 []
    ·rw [decide_eq_false h0]
     repeat' first | refine sp_ ?_ | exact ex0 | exact re0 []
   ·rw [decide_eq_false hn,Bool.false_and]
    repeat' first | refine sp_ ?_ | exact ex0 | exact re0 []
theorem QoJ (es:List (List V)) (i j:Nat) (hi:i<j) (hj:j≤es.length) (hl:es.length<1000000) (hsz:∀ r∈es,r.length=4) (hone:∀ r∈es,∀ y∈r,Qfn y=true) :
  Qan Tryz.prog 70 [.ca (.hd (.rw 173 4 es)),.ca (.val (vi i)),.ca (.val (vi j))] [] (.ca (.hd (.rw 173 4 (es.take i++es.drop j)))) []:=by
 refine Qaa Tryz.func70 rfl Tryz.ntmps70 Tryz.results70 ⟨by decide,by simp⟩ fun C hC=>?_
 refine Qzo (0,1) [26] 173 4 es ⟨⟨by kernel_rfl,by rw [hC];decide⟩,fun n h1 h2=>?_⟩
 (repeat' ((fail_if_success (first | refine Qas 7 ?_ | refine Qay 7 ?_));(first | refine sp_ ?_ | exact ex0 | exact re0 [])))
 have hD:List.take (es.length-j) (List.drop (0+j) es)=es.drop j:=by rw [Nat.zero_add,List.take_of_length_le (by rw [List.length_drop];omega)]
 rw [hD]
 simp only [List.length_drop]
 have hT:(es.take i++es.drop j++List.drop (i+(es.length-j)) es).take (i+(es.length-j))=es.take i++es.drop j:=by
  have h1:(es.take i++es.drop j).length=i+(es.length-j):=by rw [List.length_append,List.length_take,List.length_drop];omega
  rw [List.take_append_of_le_length (by omega),List.take_of_length_le (by omega)]
 have hWl:(es.take i++es.drop j++List.drop (i+(es.length-j)) es).length=es.length:=by simp;omega
 generalize es.take i++es.drop j++List.drop (i+(es.length-j)) es=W at *
 refine ⟨⟨by omega,fun r h=>hsz r (List.mem_of_mem_drop h),fun r h=>hone r (List.mem_of_mem_drop h),by omega⟩,?_⟩
 (repeat' ((fail_if_success (first | refine Qas 7 ?_ | refine Qay 7 ?_));(first | refine sp_ ?_ | exact ex0 | exact re0 [])))
 refine Qzp 0 (0,1) (i+(es.length-j)) 173 4 (List.take (0+(i+(es.length-j))) W++List.replicate (es.length-(i+(es.length-j))) [vi 0,vi 0,vi 0,vi 0]++List.drop (0+(i+(es.length-j))+(es.length-(i+(es.length-j)))) W) ⟨⟨by kernel_rfl,by kernel_rfl,by simp;omega,by rw [hC];decide⟩,?_⟩
 have hT2:(List.take (0+(i+(es.length-j))) W++List.replicate (es.length-(i+(es.length-j))) [vi 0,vi 0,vi 0,vi 0]++List.drop (0+(i+(es.length-j))+(es.length-(i+(es.length-j)))) W).take (i+(es.length-j))=es.take i++es.drop j:=by
  have h1:(List.take (i+(es.length-j)) W).length=i+(es.length-j):=by rw [List.length_take];omega
  rw [Nat.zero_add,List.append_assoc,List.take_append_of_le_length (by omega),List.take_of_length_le (by omega),hT]
 rw [hT2]
 repeat' first | refine sp_ ?_ | exact ex0 | refine QaC (fun h=>?_) (fun h=>?_) | refine Qav (fun h=>?_) (fun h=>?_) | refine QaB (fun h=>?_) (fun h=>?_) | exact re0 []
end Go.Proofs.YthfocmakkeonoaaGreatDoor
namespace Go.Proofs.YthfocmakkeonoaaGreatDoor
open Go.RowKit
attribute [go_sem] Qht
abbrev gpO (g:Gp):List CA:=[.val (vi g.m),.val (vi g.t),.val (vi g.f),.val (vi g.a),.hd (.rw 173 4 (g.l.map Qht)),.val (vb g.any),.val (vi g.gr),.val (vi g.gv)]
abbrev gpV (g:Gp):V:=.ep [vi g.m,vi g.t,vi g.f,vi g.a,.lst 4 (g.l.map Qht),vb g.any,vi g.gr,vi g.gv]
theorem QtH (l:List Wt):∀ r∈l.map Qht,r.length=4:=fun r h=>by obtain ⟨e,_,rfl⟩:=List.mem_map.1 h;rfl
theorem Qx6 (l:List Wt):∀ r∈l.map Qht,∀ y∈r,Qfn y=true:=fun r h y hy=>by
 obtain ⟨e,_,rfl⟩:=List.mem_map.1 h
 simp [Qht] at hy
 rcases hy with rfl | rfl | rfl | rfl <;> rfl
theorem QgM (n lo hi:Int):Qan Tryz.prog 106 [.ca (.val (vi n)),.ca (.val (vi lo)),.ca (.val (vi hi))] [] (.ca (.val (vi (max lo (min n hi))))) []:=by
 refine Qaa Tryz.func106 rfl Tryz.ntmps106 Tryz.results106 ⟨by decide,by simp⟩ fun C hC=>?_
 repeat' first | refine sp_ ?_ | exact ex0 | exact re0 []
theorem QCG (n:Int):Qan Tryz.prog 67 [.ca (.val (vi n))] [] (.ca (.val (vi (Qiw n)))) []:=by
 have c:=QgM n (-1099511627776) 1099511627776
 rw [show max (-1099511627776) (min n 1099511627776)=Qiw n from rfl] at c
 refine Qaa Tryz.func67 rfl Tryz.ntmps67 Tryz.results67 ⟨by decide,by simp⟩ fun C hC=>?_
 repeat' first | refine sp_ ?_ | exact ex0 | refine Qab Tryz.call106 (c) [] ex1 ?_ | exact re0 []
theorem QtI (n:Int):Qan Tryz.prog 68 [.ca (.val (vi n))] [] (.ca (.val (vi (QcD n)))) []:=by
 have c:=QgM n 0 1099511627776
 rw [show max 0 (min n 1099511627776)=QcD n from rfl] at c
 refine Qaa Tryz.func68 rfl Tryz.ntmps68 Tryz.results68 ⟨by decide,by simp⟩ fun C hC=>?_
 repeat' first | refine sp_ ?_ | exact ex0 | refine Qab Tryz.call106 (c) [] ex1 ?_ | exact re0 []
def QiJ (m t f a:Int):Int × Int × Int × Int:=(max 1 (min m 1024),max 1 (min t 100),max 0 (min f 1048576),max 1 (min a 1048576))
theorem QCH (m t f a:Int):Qan Tryz.prog 45 [.ca (.val (.agg [vi m,vi t,vi f,vi a]))] [] (.ca (.val (.agg [vi (QiJ m t f a).1,vi (QiJ m t f a).2.1,vi (QiJ m t f a).2.2.1,vi (QiJ m t f a).2.2.2]))) []:=by
 have c1:=QgM m 1 1024
 have c2:=QgM t 1 100
 have c3:=QgM f 0 1048576
 have c4:=QgM a 1 1048576
 unfold QiJ
 refine Qaa Tryz.func45 rfl Tryz.ntmps45 Tryz.results45 ⟨by decide,by simp⟩ fun C hC=>?_
 repeat' first | refine sp_ ?_ | exact ex0 | refine Qab Tryz.call106 (c1) [] ex1 ?_ | refine Qab Tryz.call106 (c2) [] ex1 ?_ | refine Qab Tryz.call106 (c3) [] ex1 ?_ | refine Qab Tryz.call106 (c4) [] ex1 ?_ | exact re0 []
def QA8 (m t f a:Int):Gp:=⟨(QiJ m t f a).1,(QiJ m t f a).2.1,(QiJ m t f a).2.2.1,(QiJ m t f a).2.2.2,[],false,0,0⟩
theorem QCI (m t f a:Int):Qan Tryz.prog 14 [.ca (.val (.agg [vi m,vi t,vi f,vi a]))] [] (.ptr 0 0) [gpO (QA8 m t f a)]:=by
 have c:=QCH m t f a
 unfold QA8
 generalize QiJ m t f a=C0 at *
 obtain ⟨m1,t1,f1,a1⟩:=C0
 dsimp only at *
 refine Qaa Tryz.func14 rfl Tryz.ntmps14 Tryz.results14 ⟨by decide,by simp⟩ fun C hC=>?_
 repeat' first | refine sp_ ?_ | exact ex0 | refine Qab Tryz.call45 (c) [] ex1 ?_ | exact re0 [(6,0)]
theorem QCJ (w:Wt) (n:Int):Qan Tryz.prog 134 [.ca (.val (.agg (Qht w))),.ca (.val (vi n))] [] (.ca (.val (vi (QoI w.n n)))) []:=by
 have c:=QzZ w.n n
 refine Qaa Tryz.func134 rfl Tryz.ntmps134 Tryz.results134 ⟨by decide,by simp⟩ fun C hC=>?_
 repeat' first | refine sp_ ?_ | exact ex0 | refine Qab Tryz.call135 (c) [] ex1 ?_ | exact re0 []
def QCK (l:List Wt) (n:Int) (i:Nat):Int:=match l[i]? with | some w=>QoI w.n n | none=>0
theorem QgN {l:List Wt} {n:Int} {i:Nat} (h:i<l.length):QCK l n i=QoI l[i].n n:=by unfold QCK;rw [List.getElem?_eq_getElem h]
theorem QtJ (l:List Wt) (n:Int):atW l n≤l.length:=by
 unfold atW
 exact (List.takeWhile_sublist _).length_le
theorem Qx7 {l:List Wt} {n:Int}:∀ i (h:i<l.length),i<atW l n→(l[i]'h).n<n:=by
 induction l with
 | nil=>intro i h;simp at h
 | cons f l ih=>
  intro i h hi
  unfold atW at hi
  rw [List.takeWhile_cons] at hi
  by_cases hf:f.n<n
  ·rw [if_pos (by simpa using hf)] at hi
   cases i with
   | zero=>simpa using hf
   | succ i=>simpa using ih i (by simpa using h) (by unfold atW;simpa using hi)
  ·rw [if_neg (by simpa using hf)] at hi
   simp at hi
theorem Qx8 {l:List Wt} {n:Int} (hs:l.Pairwise fun f g=>f.n<g.n):∀ i (h:i<l.length),atW l n≤i→n≤(l[i]'h).n:=by
 induction l with
 | nil=>intro i h;simp at h
 | cons f l ih=>
  intro i h hi
  obtain ⟨h1,h2⟩:=List.pairwise_cons.1 hs
  unfold atW at hi
  rw [List.takeWhile_cons] at hi
  by_cases hf:f.n<n
  ·rw [if_pos (by simpa using hf)] at hi
   cases i with
   | zero=>simp at hi
   | succ i=>simpa using ih h2 i (by simpa using h) (by unfold atW;simpa using hi)
  ·cases i with
   | zero=>simp;omega
   | succ i=>
    have:=h1 _ (List.getElem_mem (by simpa using h:i<l.length))
    simp
    omega
theorem QCL {l:List Wt} {n:Int} (hs:l.Pairwise fun f g=>f.n<g.n):Qdv (QCK l n) l.length=atW l n:=by
 refine Qf8 _ _ _ (QtJ l n) (fun k hk=>?_) (fun k h1 h2=>?_)
 ·have hkl:k<l.length:=Nat.lt_of_lt_of_le hk (QtJ l n)
  rw [QgN hkl,Qc9]
  exact Qx7 k hkl hk
 ·rw [QgN h2]
  have:=Qx8 hs k h2 h1
  have h3:=Qc9 l[k].n n
  omega
theorem QCM (l:List Wt) (n:Int):(decide (atW l n<l.length) && decide (QCK l n (atW l n)=0))=QsQ l n:=by
 unfold QsQ
 by_cases h:atW l n<l.length
 ·rw [QgN h,List.getElem?_eq_getElem h,decide_eq_true h,Bool.true_and]
  dsimp only
  by_cases e:l[atW l n].n=n
  ·rw [decide_eq_true e,decide_eq_true ((QkF _ _).2 e)]
  ·rw [decide_eq_false e,decide_eq_false (fun q=>e ((QkF _ _).1 q))]
 ·rw [decide_eq_false h,List.getElem?_eq_none (by omega)]
  rfl
theorem Qz1 (g:Gp) (n:Int) (hl:g.l.length≤1000000) (hs:g.l.Pairwise fun f g=>f.n<g.n):Qan Tryz.prog 69 [.ca (.val (gpV g)),.ca (.val (vi n))] [] (.ca (.val (.tup [vi (atW g.l n),vb (QsQ g.l n)]))) []:=by
 obtain ⟨m,t,f,a,l,any,gr,gv⟩:=g
 dsimp only at hl hs ⊢
 have c:=Qz0 (l.map Qht) n 134 Tryz.call134 (QCK l n) (by rw [List.length_map];exact hl) (QtH l) (fun i hi=>by
  rw [List.length_map] at hi
  rw [List.getElem_map,QgN hi]
  exact QCJ l[i] n) (fun i j hij hj h0=>by
  rw [List.length_map] at hj
  rw [QgN (by omega)] at h0
  rw [QgN hj]
  have h1:=Qc9 l[i].n n
  have h2:=Qc9 l[j].n n
  rcases Nat.lt_or_ge i j with h | h
  ·have:=List.pairwise_iff_getElem.1 hs i j (by omega) hj h
   omega
  ·obtain rfl:i=j:=by omega
   exact h0)
 rw [List.length_map,QCL hs,QCM] at c
 generalize atW l n=at_ at *
 generalize QsQ l n=is_ at *
 refine Qaa Tryz.func69 rfl Tryz.ntmps69 Tryz.results69 ⟨by decide,by simp⟩ fun C hC=>?_
 repeat' first | refine sp_ ?_ | exact ex0 | refine Qee Tryz.call133 (c) ex1 ?_ | exact re0 []
end Go.Proofs.YthfocmakkeonoaaGreatDoor
namespace Go.Proofs.YthfocmakkeonoaaGreatDoor
open Go.RowKit
theorem QtK (es:List (List V)) (hl:es.length<1000000):Qan Tryz.prog 70 [.ca (.hd (.rw 173 4 es)),.ca (.val (vi 0)),.ca (.val (vi 0))] [] (.ca (.hd (.rw 173 4 es))) []:=by
 refine Qaa Tryz.func70 rfl Tryz.ntmps70 Tryz.results70 ⟨by decide,by simp⟩ fun C hC=>?_
 repeat' first | refine sp_ ?_ | exact ex0 | exact re0 []
abbrev gpA (g:Gp):List CA:=[.val (vi g.m),.val (vi g.t),.val (vi g.f),.val (vi g.a),.val .any,.val (vb g.any),.val (vi g.gr),.val (vi g.gv)]
abbrev wtO (w:Wt):List CA:=[.val (vi w.n),.val (vi w.at'),.val (vi w.tr),.val (vi w.wt)]
theorem QCN (g:Gp) (w:Wt) (now:Int) (hg:0≤g.gv∧g.gv≤1099511627776000) (hw:0≤w.tr∧w.tr≤100∧0≤w.wt∧w.wt≤1048576) (hn:0≤now∧now≤1099511627776) :
  Qan Tryz.prog 86 [.ptr 0 0,.ptr 1 0,.ca (.val (vi now))] [gpA g,wtO w] (.ca (.val (vb (Qoj g.t now w).isSome))) [gpA (if (Qoj g.t now w).isSome=true then g else { g with gv:=g.gv+1 }),wtO ((Qoj g.t now w).getD w)]:=by
 obtain ⟨m,t,f,a,l,any,gr,gv⟩:=g
 obtain ⟨n,at',tr,wt⟩:=w
 dsimp only at hg hw ⊢
 unfold Qoj
 dsimp only
 by_cases h:t≤tr
 ·rw [if_pos h]
  refine Qaa Tryz.func86 rfl Tryz.ntmps86 Tryz.results86 ⟨by decide,by simp⟩ fun C hC=>?_
  repeat' first | refine sp_ ?_ | exact ex0 | exact re0 []
 ·rw [if_neg h]
  refine Qaa Tryz.func86 rfl Tryz.ntmps86 Tryz.results86 ⟨by decide,by simp⟩ fun C hC=>?_
  repeat' first | refine sp_ ?_ | exact ex0 | exact re0 []
theorem Qz2 (g:Gp) (k:Nat) (hk:k≤g.l.length) (hl:g.l.length<1000000) (hg:0≤g.gv∧g.gv≤4611686018427387904) :
  Qan Tryz.prog 71 [.ptr 0 0,.ca (.val (vi k))] [gpO g] (.ca (.val (vi k))) [gpO { g with l:=g.l.drop k,gv:=g.gv+k }]:=by
 obtain ⟨m,t,f,a,l,any,gr,gv⟩:=g
 dsimp only at hk hl hg ⊢
 have hm:min (k:Int) (l.length:Int)=k:=by omega
 have hdm:(l.drop k).map Qht=(l.map Qht).drop k:=List.map_drop ..
 unfold gpO
 dsimp only
 rw [hdm]
 have hln:(l.map Qht).length=l.length:=List.length_map ..
 have hw1:=QtH l
 have hw2:=Qx6 l
 generalize l.map Qht=L at *
 rcases Nat.eq_zero_or_pos k with h0 | h0
 ·subst h0
  have c:=QtK L (by omega)
  rw [List.drop_zero]
  refine Qaa Tryz.func71 rfl Tryz.ntmps71 Tryz.results71 ⟨by decide,by simp⟩ fun C hC=>?_
  repeat' first | refine sp_ ?_ | exact ex0 | refine Qab Tryz.call70 (c) [] ex1 ?_ | exact re0 []
 ·have c:=QoJ L 0 k h0 (by omega) (by omega) hw1 hw2
  rw [List.take_zero,List.nil_append] at c
  refine Qaa Tryz.func71 rfl Tryz.ntmps71 Tryz.results71 ⟨by decide,by simp⟩ fun C hC=>?_
  repeat' first | refine sp_ ?_ | exact ex0 | refine Qab Tryz.call70 (c) [] ex1 ?_ | exact re0 []
end Go.Proofs.YthfocmakkeonoaaGreatDoor
namespace Go.Proofs.YthfocmakkeonoaaGreatDoor
open Go.RowKit
theorem Ql1 (a w:Int):∀ (k:Nat) (n:Int),Qi4 a w n (k+1)=Qi4 a w n k++[⟨n+k,a,0,w⟩]
 | 0,n=>by simp [Qi4]
 | k+1,n=>by
  rw [Qi4,Ql1 a w k (n+1),Qi4,List.cons_append]
  congr 3
  simp only [Wt.mk.injEq,and_true]
  omega
theorem Qf9 (a w:Int):∀ (k:Nat) (n:Int),(Qi4 a w n k).length=k
 | 0,n=>rfl
 | k+1,n=>by rw [Qi4,List.length_cons,Qf9 a w k]
theorem QeH {a w:Int}:∀ {k:Nat} {n:Int} {x:Wt},x∈Qi4 a w n k→n≤x.n∧x.n<n+k∧x.at'=a∧x.tr=0∧x.wt=w
 | 0,n,x,h=>by cases h
 | k+1,n,x,h=>by
  rw [Qi4] at h
  rcases List.mem_cons.1 h with rfl | h
  ·exact ⟨Int.le_refl _,by dsimp only;omega,rfl,rfl,rfl⟩
  ·obtain ⟨h1,h2,h3⟩:=QeH h
   exact ⟨by omega,by omega,h3⟩
theorem QtL (a w:Int):∀ (k:Nat) (n:Int),(Qi4 a w n k).Pairwise fun u v=>u.n<v.n
 | 0,n=>List.Pairwise.nil
 | k+1,n=>by
  rw [Qi4]
  refine List.pairwise_cons.2 ⟨fun x hx=>?_,QtL a w k _⟩
  have:=(QeH hx).1
  dsimp only
  omega
theorem QiK {l:List Wt} {n:Int} (h:QsQ l n=true):∃ hi:atW l n<l.length,l[atW l n].n=n:=by
 unfold QsQ at h
 cases hg:l[atW l n]? with
 | none=>rw [hg] at h;cases h
 | some w=>
  rw [hg] at h
  obtain ⟨h1,h2⟩:=List.getElem?_eq_some_iff.1 hg
  exact ⟨h1,by rw [h2];exact of_decide_eq_true h⟩
theorem QkG (n:Int):-1099511627776≤Qiw n∧Qiw n≤1099511627776:=by unfold Qiw;omega
theorem QtM (n:Int):0≤QcD n∧QcD n≤1099511627776:=by unfold QcD;omega
theorem Qz3 (g:Gp) {K:Int} (hg:g.Ok K) (hK:K≤1000000) (n0 now0:Int) :
  Qan Tryz.prog 27 [.ptr 0 0,.ca (.val (vi n0)),.ca (.val (vi now0))] [gpO g] (.ca (.val (vi (QeO g n0 now0).2))) [gpO (QeO g n0 now0).1]:=by
 have cn:=QCG n0
 have ct:=QtI now0
 have hn:=QkG n0
 have ht:=QtM now0
 unfold QeO
 dsimp only
 generalize Qiw n0=n at *
 generalize QcD now0=now at *
 have hm0:=hg.m0
 have hm1:=hg.m1
 have hln:=hg.ln
 have hg0:=hg.g0
 have hg1:=hg.g1
 by_cases ha:g.any=false
 ·rw [if_pos ha]
  obtain ⟨m,t,f,a,l,any,gr,gv⟩:=g
  dsimp only at *
  subst ha
  refine Qaa Tryz.func27 rfl Tryz.ntmps27 Tryz.results27 ⟨by decide,by simp⟩ fun C hC=>?_
  repeat' first | refine sp_ ?_ | exact ex0 | refine Qab Tryz.call67 (cn) [] ex1 ?_ | refine Qab Tryz.call68 (ct) [] ex1 ?_ | exact re0 []
 rw [if_neg ha]
 have ha:g.any=true:=by simpa using ha
 by_cases hle:n≤g.gr
 ·rw [if_pos hle]
  have cf:=Qz1 g n (by omega) hg.so
  cases hi:QsQ g.l n with
  | false=>
   rw [hi] at cf
   rw [if_neg (by decide)]
   obtain ⟨m,t,f,a,l,any,gr,gv⟩:=g
   dsimp only at *
   subst ha
   generalize atW l n=k at *
   refine Qaa Tryz.func27 rfl Tryz.ntmps27 Tryz.results27 ⟨by decide,by simp⟩ fun C hC=>?_
   repeat' first | refine sp_ ?_ | exact ex0 | refine Qab Tryz.call67 (cn) [] ex1 ?_ | refine Qab Tryz.call68 (ct) [] ex1 ?_ | refine Qee Tryz.call69 (cf) ex1 ?_ | exact re0 []
  | true=>
   rw [hi] at cf
   rw [if_pos rfl]
   obtain ⟨hk,-⟩:=QiK hi
   obtain ⟨m,t,f,a,l,any,gr,gv⟩:=g
   dsimp only at *
   subst ha
   generalize atW l n=k at *
   have cd:=QoJ (l.map Qht) k (k+1) (by omega) (by rw [List.length_map];omega) (by rw [List.length_map];omega) (QtH l) (Qx6 l)
   rw [show ((k+1:Nat):Int)=(k:Int)+1 from rfl] at cd
   have he:(l.take k++l.drop (k+1)).map Qht=(l.map Qht).take k++(l.map Qht).drop (k+1):=by rw [List.map_append,List.map_take,List.map_drop]
   unfold gpO
   dsimp only
   rw [he]
   refine Qaa Tryz.func27 rfl Tryz.ntmps27 Tryz.results27 ⟨by decide,by simp⟩ fun C hC=>?_
   repeat' first | refine sp_ ?_ | exact ex0 | refine Qab Tryz.call67 (cn) [] ex1 ?_ | refine Qab Tryz.call68 (ct) [] ex1 ?_ | refine Qee Tryz.call69 (cf) ex1 ?_ | refine Qab Tryz.call70 (cd) [] ex1 ?_ | exact re0 []
 rw [if_neg hle]
 obtain ⟨ov,hov⟩:∃ ov,Qjg g n=ov:=⟨_,rfl⟩
 obtain ⟨sk,hsk⟩:∃ sk,QlM g n=sk:=⟨_,rfl⟩
 have hsk':=hsk
 unfold QlM at hsk'
 rw [hov] at hsk' ⊢
 rw [hsk]
 have hov':=hov
 unfold Qjg at hov'
 obtain ⟨c,hc⟩:∃ c:Nat,(n-g.gr-1-sk).toNat=c:=⟨_,rfl⟩
 obtain ⟨d,hd⟩:∃ d:Nat,(ov-sk).toNat=d:=⟨_,rfl⟩
 rw [hc,hd]
 have hcz:(c:Int)=n-g.gr-1-sk:=by omega
 have hdz:ov-sk=(d:Int):=by omega
 have hcl:g.l.length+c≤2048:=by omega
 have hv0:=hg.v0
 have hv1:=hg.v1
 have hf0:=hg.f0
 have hf1:=hg.f1
 have ha0:=hg.a0
 have ha1:=hg.a1
 clear hov hsk
 have cg:=Qz2 ⟨g.m,g.t,g.f,g.a,g.l++Qi4 (now+g.f) g.a (g.gr+1+sk) c,true,n,g.gv⟩ d (by dsimp only;rw [List.length_append,Qf9];omega) (by dsimp only;rw [List.length_append,Qf9];omega) (by dsimp only;omega)
 obtain ⟨m,t,f,a,l,any,gr,gv⟩:=g
 dsimp only at *
 subst ha
 have e3:gv+ov=gv+d+sk:=by omega
 rw [e3]
 refine Qaa Tryz.func27 rfl Tryz.ntmps27 Tryz.results27 ⟨by decide,by simp⟩ fun C hC=>?_
 (repeat' ((fail_if_success (refine Qat 15 ?_));(first | refine sp_ ?_ | exact ex0 | refine Qab Tryz.call67 (cn) [] ex1 ?_ | refine Qab Tryz.call68 (ct) [] ex1 ?_ | exact re0 [])))
 (try simp only [hov',hsk'])
 (repeat' ((fail_if_success (refine Qat 15 ?_));(first | refine sp_ ?_ | exact ex0 | exact re0 [])))
 refine QaD (α:={i:Nat // i≤c}) (fun i=>[(.o (1000,0),.num 8),(.c (1000,0) 0,.av (.val (vi m))),(.c (1000,0) 1,.av (.val (vi t))),(.c (1000,0) 2,.av (.val (vi f))),(.c (1000,0) 3,.av (.val (vi a))),(.c (1000,0) 4,.av (.ref (1000,5) 0)),(.c (1000,0) 5,.av (.val (vb true))),(.c (1000,0) 6,.av (.val (vi n))),(.c (1000,0) 7,.av (.val (vi gv))),(.r (1000,5),.tree (.rw 173 4 ((l++Qi4 (now+f) a (gr+1+sk) i.1).map Qht))),(.s 0,.av (.ptr (1000,0) 0 0)),(.s 1,.av (.val (vi n))),(.s 2,.av (.val (vi now))),(.s 11,.av (.val (vi ov))),(.s 12,.av (.val (vi sk))),(.s 13,.av (.val (vi (gr+1+sk+i.1))))]) (fun i=>c-i.1) ⟨0,Nat.zero_le _⟩ ?_ (fun i=>?_)
 ·simp (decide:=true) (disch:=omega) only [go_sem,↓reduceIte,↓Qad]
  (try simp [Qi4])
 obtain ⟨i,hi⟩:=i
 dsimp only at hi ⊢
 by_cases hlt:i<c
 ·have e1:(l++Qi4 (now+f) a (gr+1+sk) (i+1)).map Qht=(l++Qi4 (now+f) a (gr+1+sk) i).map Qht++[[vi (gr+1+sk+i),vi (now+f),vi 0,vi a]]:=by
   rw [Ql1,←List.append_assoc,List.map_append];rfl
  have e2:((l++Qi4 (now+f) a (gr+1+sk) i).map Qht).length≤2048:=by rw [List.length_map,List.length_append,Qf9];omega
  generalize (l++Qi4 (now+f) a (gr+1+sk) i).map Qht=L at *
  repeat' first | refine sp_ ?_ | exact ex0 | exact re0 []
  refine Qau (α:={i:Nat // i≤c}) ⟨i+1,hlt⟩ ⟨?_,by (try dsimp only);omega⟩
  (try dsimp only)
  rw [e1]
  simp (decide:=true) (disch:=omega) only [go_sem,↓reduceIte,↓Qad]
  (try omega)
 ·obtain rfl:i=c:=by omega
  repeat' first | refine sp_ ?_ | exact ex0 | (refine Qap [] ?_;simp (decide:=true) (disch:=omega) only [go_sem,↓reduceIte,↓Qad])
  (try simp only [hdz])
  repeat' first | refine sp_ ?_ | exact ex0 | refine Qab Tryz.call71 (cg) [(1000,0)] ex1 ?_ | exact re0 []
end Go.Proofs.YthfocmakkeonoaaGreatDoor
namespace Go.Proofs.YthfocmakkeonoaaGreatDoor
open Go.RowKit
theorem Qz4 (n:Int) (h0:0≤n) (h1:n≤65535):Qan Tryz.prog 65 [.ca (.val (vh n))] [] (.ca (.val (.agg (srL (QxW n))))) []:=by
 have e1:=Qzw (n-1)
 unfold QxW
 refine Qaa Tryz.func65 rfl Tryz.ntmps65 Tryz.results65 ⟨by decide,by simp⟩ fun C hC=>?_
 repeat' first | refine sp_ ?_ | exact ex0 | (refine Qap [] ?_;simp (decide:=true) (disch:=omega) only [go_sem,↓reduceIte,↓Qad])
 (try simp only [e1])
 repeat' first | refine sp_ ?_ | exact ex0 | exact re0 []
theorem QoK (s:Sr) (n:Int) (h0:0≤n) (h1:n≤65535):Qan Tryz.prog 132 [.ca (.val (.agg (srL s))),.ca (.val (vh n))] [] (.ca (.val (.agg (srL ⟨n,0,n,65537,s.pr,0⟩)))) []:=by
 refine Qaa Tryz.func132 rfl Tryz.ntmps132 Tryz.results132 ⟨by decide,by simp⟩ fun C hC=>?_
 repeat' first | refine sp_ ?_ | exact ex0 | exact re0 []
theorem QtN (s:Sr) {K:Int} (h:s.Ok K) (hK:0≤K∧K≤1000000000) (n:Int) (h0:0≤n) (h1:n≤65535):Qan Tryz.prog 131 [.ca (.val (.agg (srL s))),.ca (.val (vh n))] [] (.ca (.val (.tup [.agg (srL (QjF s n).1),vb (QjF s n).2]))) []:=by
 obtain ⟨mx,cy,bs,bd,pr,rc⟩:=s
 have e1:=Qzw (mx+1)
 have a7:=h.p0
 have a8:=h.p1
 dsimp only at a7 a8
 have c:=QoK ⟨mx,cy,bs,bd,pr-1,rc⟩ n h0 h1
 unfold QjF
 dsimp only at c ⊢
 refine Qaa Tryz.func131 rfl Tryz.ntmps131 Tryz.results131 ⟨by decide,by simp⟩ fun C hC=>?_
 by_cases q1:n=(mx+1) % 65536
 ·rw [if_neg (by omega)]
  by_cases q2:0<pr-1
  ·rw [if_pos q2]
   repeat' first | refine sp_ ?_ | exact ex0 | (refine Qap [] ?_;simp (decide:=true) (disch:=omega) only [go_sem,↓reduceIte,↓Qad])
   (try simp only [e1])
   repeat' first | refine sp_ ?_ | exact ex0 | refine Qab Tryz.call132 (c) [] ex1 ?_ | exact re0 []
  ·rw [if_neg q2]
   repeat' first | refine sp_ ?_ | exact ex0 | (refine Qap [] ?_;simp (decide:=true) (disch:=omega) only [go_sem,↓reduceIte,↓Qad])
   (try simp only [e1])
   repeat' first | refine sp_ ?_ | exact ex0 | refine Qab Tryz.call132 (c) [] ex1 ?_ | exact re0 []
 ·rw [if_pos q1]
  repeat' first | refine sp_ ?_ | exact ex0 | (refine Qap [] ?_;simp (decide:=true) (disch:=omega) only [go_sem,↓reduceIte,↓Qad])
  (try simp only [e1])
  repeat' first | refine sp_ ?_ | exact ex0 | exact re0 []
theorem QjP (s:Sr) {K:Int} (h:s.Ok K) (hK:0≤K∧K≤1000000000) (n:Int) (h0:0≤n) (h1:n≤65535):Qan Tryz.prog 66 [.ca (.val (.agg (srL s))),.ca (.val (vh n))] [] (.ca (.val (.tup [.agg (srL (QxX s n).1),vb (QxX s n).2]))) []:=by
 have c1:=QtN s h hK n h0 h1
 unfold QxX
 by_cases q0:0<s.pr
 ·rw [if_pos q0]
  generalize QjF s n=R at *
  obtain ⟨s2,b2⟩:=R
  obtain ⟨mx,cy,bs,bd,pr,rc⟩:=s
  dsimp only at q0 c1 ⊢
  refine Qaa Tryz.func66 rfl Tryz.ntmps66 Tryz.results66 ⟨by decide,by simp⟩ fun C hC=>?_
  repeat' first | refine sp_ ?_ | exact ex0 | refine Qab Tryz.call131 (c1) [] ex1 ?_ | exact re0 []
 ·rw [if_neg q0]
  have c2:=QoK s n h0 h1
  obtain ⟨mx,cy,bs,bd,pr,rc⟩:=s
  have e1:=Qzw (n-mx)
  have e2:=Qzw (n+1)
  obtain ⟨a1,a2,a3,a4,a5,a6,a7,a8,a9,a10,a11,a12⟩:=h
  dsimp only at q0 c2 a1 a2 a3 a4 a5 a6 a7 a8 a9 a10 a11 a12 ⊢
  refine Qaa Tryz.func66 rfl Tryz.ntmps66 Tryz.results66 ⟨by decide,by simp⟩ fun C hC=>?_
  by_cases q1:(n-mx) % 65536<3000
  ·rw [if_pos q1]
   by_cases q2:n<mx
   ·rw [if_pos q2]
    repeat' first | refine sp_ ?_ | exact ex0 | (refine Qap [] ?_;simp (decide:=true) (disch:=omega) only [go_sem,↓reduceIte,↓Qad])
    (try simp only [e1])
    repeat' first | refine sp_ ?_ | exact ex0 | exact re0 []
   ·rw [if_neg q2]
    repeat' first | refine sp_ ?_ | exact ex0 | (refine Qap [] ?_;simp (decide:=true) (disch:=omega) only [go_sem,↓reduceIte,↓Qad])
    (try simp only [e1])
    repeat' first | refine sp_ ?_ | exact ex0 | exact re0 []
  ·rw [if_neg q1]
   by_cases q2:(n-mx) % 65536≤65436
   ·rw [if_pos q2]
    by_cases q3:n=bd
    ·rw [if_neg (by omega)]
     repeat' first | refine sp_ ?_ | exact ex0 | (refine Qap [] ?_;simp (decide:=true) (disch:=omega) only [go_sem,↓reduceIte,↓Qad])
     (try simp only [e1])
     repeat' first | refine sp_ ?_ | exact ex0 | refine Qab Tryz.call132 (c2) [] ex1 ?_ | exact re0 []
    ·rw [if_pos q3]
     repeat' first | refine sp_ ?_ | exact ex0 | (refine Qap [] ?_;simp (decide:=true) (disch:=omega) only [go_sem,↓reduceIte,↓Qad])
     (try simp only [e1])
     repeat' first | refine sp_ ?_ | exact ex0 | (refine Qap [] ?_;simp (decide:=true) (disch:=omega) only [go_sem,↓reduceIte,↓Qad])
     (try simp only [e2])
     repeat' first | refine sp_ ?_ | exact ex0 | exact re0 []
   ·rw [if_neg q2]
    repeat' first | refine sp_ ?_ | exact ex0 | (refine Qap [] ?_;simp (decide:=true) (disch:=omega) only [go_sem,↓reduceIte,↓Qad])
    (try simp only [e1])
    repeat' first | refine sp_ ?_ | exact ex0 | exact re0 []
end Go.Proofs.YthfocmakkeonoaaGreatDoor
namespace Go.Proofs.YthfocmakkeonoaaGreatDoor
open Go.RowKit
theorem QoL (n lo hi:Int):Qan Tryz.prog 80 [.ca (.val (vi n)),.ca (.val (vi lo)),.ca (.val (vi hi))] [] (.ca (.val (vi (QdW n lo hi)))) []:=by
 unfold QdW
 refine Qaa Tryz.func80 rfl Tryz.ntmps80 Tryz.results80 ⟨by decide,by simp⟩ fun C hC=>?_
 repeat' first | refine sp_ ?_ | exact ex0 | refine QaC (fun h=>?_) (fun h=>?_) | refine Qav (fun h=>?_) (fun h=>?_) | refine QaB (fun h=>?_) (fun h=>?_) | exact re0 []
theorem Qx9 (n:Int):Qan Tryz.prog 79 [.ca (.val (vi n))] [] (.ca (.val (vi (QdX n)))) []:=by
 have c:=QoL n 0 1099511627776
 unfold QdX
 generalize QdW n 0 1099511627776=r at *
 refine Qaa Tryz.func79 rfl Tryz.ntmps79 Tryz.results79 ⟨by decide,by simp⟩ fun C hC=>?_
 repeat' first | refine sp_ ?_ | exact ex0 | refine Qab Tryz.call80 (c) [] ex1 ?_ | refine QaC (fun h=>?_) (fun h=>?_) | refine Qav (fun h=>?_) (fun h=>?_) | refine QaB (fun h=>?_) (fun h=>?_) | exact re0 []
theorem QE5 (a b:Int) (ha:-17592186044416≤a∧a≤17592186044416) (hb:-17592186044416≤b∧b≤17592186044416):Qan Tryz.prog 81 [.ca (.val (vi a)),.ca (.val (vi b))] [] (.ca (.val (vi (Qx0 a b)))) []:=by
 unfold Qx0
 obtain ⟨a1,a2⟩:=ha
 obtain ⟨b1,b2⟩:=hb
 refine Qaa Tryz.func81 rfl Tryz.ntmps81 Tryz.results81 ⟨by decide,by simp⟩ fun C hC=>?_
 repeat' first | refine sp_ ?_ | exact ex0 | refine QaC (fun h=>?_) (fun h=>?_) | refine Qav (fun h=>?_) (fun h=>?_) | refine QaB (fun h=>?_) (fun h=>?_) | exact re0 []
abbrev jL (j:J15):List V:=[vi j.sc,vi j.tr,vb j.has]
theorem Qz5 (j:J15) (sent came:Int):Qan Tryz.prog 30 [.ca (.val (.agg (jL j))),.ca (.val (vi sent)),.ca (.val (vi came))] [] (.ca (.val (.agg (jL (Qp4 j sent came))))) []:=by
 have c1:=Qx9 came
 have c2:=Qx9 sent
 have c3:=QoL j.sc 0 17592186044416
 have c4:=QoL j.tr (-1099511627776) 1099511627776
 have b1:=QeE came 0 1099511627776
 have b2:=QfW came 0 1099511627776 (by decide)
 have b3:=QeE sent 0 1099511627776
 have b4:=QfW sent 0 1099511627776 (by decide)
 have b5:=QeE j.sc 0 17592186044416
 have b6:=QfW j.sc 0 17592186044416 (by decide)
 have b7:=QeE j.tr (-1099511627776) 1099511627776
 have b8:=QfW j.tr (-1099511627776) 1099511627776 (by decide)
 change 0≤QdX came at b1
 change QdX came≤_ at b2
 change 0≤QdX sent at b3
 change QdX sent≤_ at b4
 have c5:=QE5 (QdX came-QdX sent) (QdW j.tr (-1099511627776) 1099511627776) (by omega) (by omega)
 have b9:0≤Qx0 (QdX came-QdX sent) (QdW j.tr (-1099511627776) 1099511627776):=by unfold Qx0;omega
 have b10:Qx0 (QdX came-QdX sent) (QdW j.tr (-1099511627776) 1099511627776)≤17592186044416:=by unfold Qx0;omega
 unfold Qp4
 (try dsimp only)
 generalize Qx0 (QdX came-QdX sent) (QdW j.tr (-1099511627776) 1099511627776)=D at *
 generalize QdX came=tc at *
 generalize QdX sent=ts at *
 generalize QdW j.sc 0 17592186044416=S at *
 generalize QdW j.tr (-1099511627776) 1099511627776=R at *
 obtain ⟨sc,tr,has⟩:=j
 (try dsimp only at *)
 cases has with
 | false=>
  simp only [Bool.false_eq_true,if_false]
  refine Qaa Tryz.func30 rfl Tryz.ntmps30 Tryz.results30 ⟨by decide,by simp⟩ fun C hC=>?_
  repeat' first | refine sp_ ?_ | exact ex0 | refine Qab Tryz.call79 (c1) [] ex1 ?_ | refine Qab Tryz.call79 (c2) [] ex1 ?_ | refine Qab Tryz.call80 (c3) [] ex1 ?_ | refine QaC (fun h=>?_) (fun h=>?_) | refine Qav (fun h=>?_) (fun h=>?_) | refine QaB (fun h=>?_) (fun h=>?_) | exact re0 []
 | true=>
  simp only [if_true]
  refine Qaa Tryz.func30 rfl Tryz.ntmps30 Tryz.results30 ⟨by decide,by simp⟩ fun C hC=>?_
  repeat' first | refine sp_ ?_ | exact ex0 | refine Qab Tryz.call79 (c1) [] ex1 ?_ | refine Qab Tryz.call79 (c2) [] ex1 ?_ | refine Qab Tryz.call80 (c3) [] ex1 ?_ | refine Qab Tryz.call80 (c4) [] ex1 ?_ | refine Qab Tryz.call81 (c5) [] ex1 ?_ | refine QaC (fun h=>?_) (fun h=>?_) | refine Qav (fun h=>?_) (fun h=>?_) | refine QaB (fun h=>?_) (fun h=>?_) | exact re0 []
theorem QCO (j:J15):Qan Tryz.prog 83 [.ca (.val (.agg (jL j)))] [] (.ca (.val (vi (Qg9 j)))) []:=by
 have c3:=QoL j.sc 0 17592186044416
 have b5:=QeE j.sc 0 17592186044416
 have b6:=QfW j.sc 0 17592186044416 (by decide)
 unfold Qg9
 generalize QdW j.sc 0 17592186044416=S at *
 obtain ⟨sc,tr,has⟩:=j
 (try dsimp only at *)
 refine Qaa Tryz.func83 rfl Tryz.ntmps83 Tryz.results83 ⟨by decide,by simp⟩ fun C hC=>?_
 repeat' first | refine sp_ ?_ | exact ex0 | refine Qab Tryz.call80 (c3) [] ex1 ?_ | refine QaC (fun h=>?_) (fun h=>?_) | refine Qav (fun h=>?_) (fun h=>?_) | refine QaB (fun h=>?_) (fun h=>?_) | exact re0 []
end Go.Proofs.YthfocmakkeonoaaGreatDoor
namespace Go.Proofs.YthfocmakkeonoaaGreatDoor
open Go.RowKit
theorem Qz6 (t:Nat) (c now:Int):Qan Tryz.prog 140 [.ca (.val (vu t)),.ca (.val (vi c)),.ca (.val (vi now))] [] (.ptr 0 0) [frO (Qg7 t c now)]:=by
 have hn:((max 1 (min c 255)).toNat:Int)=max 1 (min c 255):=by omega
 unfold frO Qg7
 dsimp only
 rw [hn,show kvF []=[] from rfl,show ((Qbo []:Nat):Int)=0 from rfl]
 refine Qaa Tryz.func140 rfl Tryz.ntmps140 Tryz.results140 ⟨by decide,by simp⟩ fun C hC=>?_
 repeat' first | refine sp_ ?_ | exact ex0 | exact re0 []
 refine QsV (by simp (decide:=true) (disch:=omega) only [go_sem,↓reduceIte,↓Qad];exact ⟨rfl,rfl,rfl⟩) ex0 ?_
 refine QsW (by simp (decide:=true) (disch:=omega) only [go_sem,↓reduceIte,↓Qad];exact ⟨rfl,rfl,rfl⟩) ex0 ?_
 (repeat' ((fail_if_success (refine Qbf ?_));(first | refine sp_ ?_ | exact ex0 | exact re0 [])))
 refine QlK (12,1) [] [] (List.Perm.refl _) ⟨ex0,?_⟩
 repeat' first | refine sp_ ?_ | exact ex0 | exact re0 [(14,0)]
theorem QkH (f:Fr):Qan Tryz.prog 78 [.ptr 0 0] [frO f] (.ca (.val (vu f.tm))) [frO f]:=by
 refine Qaa Tryz.func78 rfl Tryz.ntmps78 Tryz.results78 ⟨by decide,by simp⟩ fun C hC=>?_
 repeat' first | refine sp_ ?_ | exact ex0 | exact re0 []
theorem QtO (f:Fr):Qan Tryz.prog 85 [.ptr 0 0] [frO f] (.ca (.val (vi f.t0))) [frO f]:=by
 refine Qaa Tryz.func85 rfl Tryz.ntmps85 Tryz.results85 ⟨by decide,by simp⟩ fun C hC=>?_
 repeat' first | refine sp_ ?_ | exact ex0 | exact re0 []
theorem Ql2 (f:Fr):Qan Tryz.prog 143 [.ptr 0 0] [frO f] (.ca (.val (vi (Qbo f.ps)))) [frO f]:=by
 refine Qaa Tryz.func143 rfl Tryz.ntmps143 Tryz.results143 ⟨by decide,by simp⟩ fun C hC=>?_
 repeat' first | refine sp_ ?_ | exact ex0 | exact re0 []
theorem QoM (f:Fr) (h:f.Ok):Qan Tryz.prog 142 [.ptr 0 0] [frO f] (.ca (.val (vi f.ps.length))) [frO f]:=by
 have hl:=h.len
 have hn:=h.n1
 refine Qaa Tryz.func142 rfl Tryz.ntmps142 Tryz.results142 ⟨by decide,by simp⟩ fun C hC=>?_
 refine QmY (1000,4) (kvF f.ps) ex0 fun kvs hp=>?_
 have hk:=QsY hp
 (repeat' ((fail_if_success (refine Qbf ?_));(first | refine sp_ ?_ | exact ex0 | exact re0 [])))
 refine QlK (1000,4) kvs (kvF f.ps) hp ⟨ex0,?_⟩
 repeat' first | refine sp_ ?_ | exact ex0 | (refine Qap [] ?_;simp (decide:=true) (disch:=omega) only [go_sem,↓reduceIte,↓Qad])
 rw [hk]
theorem QiL (f:Fr) (h:f.Ok):Qan Tryz.prog 144 [.ptr 0 0] [frO f] (.ca (.val (vb (QbF f)))) [frO f]:=by
 have hl:=h.len
 have hn:=h.n1
 unfold QbF
 refine Qaa Tryz.func144 rfl Tryz.ntmps144 Tryz.results144 ⟨by decide,by simp⟩ fun C hC=>?_
 refine QmY (1000,4) (kvF f.ps) ex0 fun kvs hp=>?_
 have hk:=QsY hp
 (repeat' ((fail_if_success (refine Qbf ?_));(first | refine sp_ ?_ | exact ex0 | exact re0 [])))
 refine QlK (1000,4) kvs (kvF f.ps) hp ⟨ex0,?_⟩
 repeat' first | refine sp_ ?_ | exact ex0 | (refine Qap [] ?_;simp (decide:=true) (disch:=omega) only [go_sem,↓reduceIte,↓Qad])
 rw [hk]
 by_cases e:f.ps.length=f.n
 ·simp [e]
 ·rw [decide_eq_false e]
  simp
  omega
theorem Qz7 (f:Fr) (h:f.Ok) (i c:Int) (s:List UInt8) (hs:s.length≤1048576):Qan Tryz.prog 75 [.ptr 0 0,.ca (.val (.agg [vi i,vi c])),.ca (.val (vs s))] [frO f] (.ca (.val (vi (QbU f i c s).2))) [frO (QbU f i c s).1]:=by
 have hl:=h.len
 have hn:=h.n1
 have hsum:=h.sum
 have ho':=Qm6 h i c hs
 by_cases h1:c=f.n∧0≤i∧i<f.n
 ·obtain ⟨rfl,h2,h3⟩:=h1
  have hu:QbU f i f.n s=if (QbP f.ps i.toNat).isSome=true then (f,3) else ({ f with ps:=f.ps++[(i.toNat,s)] },if f.ps.length+1=f.n then 2 else 1):=by
   unfold QbU
   rw [if_neg (by omega)]
  cases hg:QbP f.ps i.toNat with
  | some x=>
   rw [hg] at hu
   rw [if_pos (show (some x).isSome=true from rfl)] at hu
   rw [hu]
   clear ho'
   refine Qaa Tryz.func75 rfl Tryz.ntmps75 Tryz.results75 ⟨by decide,by simp⟩ fun C hC=>?_
   refine QmY (1000,4) (kvF f.ps) ex0 fun kvs hp=>?_
   have hk:=QeD hp
   have hget:=Qm8 h.nd hp h2
   rw [hg] at hget
   simp only [Option.map_some] at hget
   repeat' first | refine sp_ ?_ | exact ex0 | exact re0 []
   simp only [hget]
   (repeat' ((fail_if_success (refine Qbf ?_));(first | refine sp_ ?_ | exact ex0 | exact re0 [])))
   refine QlK (1000,4) kvs (kvF f.ps) hp ⟨ex0,?_⟩
   repeat' first | refine sp_ ?_ | exact ex0 | exact re0 []
  | none=>
   rw [hg] at hu
   rw [if_neg (by decide)] at hu
   rw [hu] at ho' ⊢
   have cw:=QiL _ ho'
   obtain ⟨g,hg'⟩:∃ g:Fr,g = { f with ps:=f.ps++[(i.toNat,s)] }:=⟨_,rfl⟩
   rw [←hg'] at cw ho' ⊢
   have e1:(Qbo g.ps:Int)=Qbo f.ps+s.length:=by rw [hg',QlP];simp [Qbo]
   have e2:g.tm=f.tm∧g.n=f.n∧g.t0=f.t0:=by rw [hg'];exact ⟨rfl,rfl,rfl⟩
   have e3:QbF g=decide (f.ps.length+1=f.n):=by rw [hg'];unfold QbF;simp
   have e4:kvF g.ps=kvF (f.ps++[(i.toNat,s)]):=by rw [hg']
   rw [e3] at cw
   refine Qaa Tryz.func75 rfl Tryz.ntmps75 Tryz.results75 ⟨by decide,by simp⟩ fun C hC=>?_
   refine QmY (1000,4) (kvF f.ps) ex0 fun kvs hp=>?_
   have hk:=QeD hp
   have hget:=Qm8 h.nd hp h2
   rw [hg] at hget
   simp only [Option.map_none] at hget
   obtain ⟨hset,hperm⟩:=QzB hp h2 hg s
   repeat' first | refine sp_ ?_ | exact ex0 | exact re0 []
   simp only [hget]
   (repeat' ((fail_if_success (first | refine Qas 7 ?_ | refine Qay 7 ?_));(first | refine sp_ ?_ | exact ex0 | exact re0 [])))
   simp only [hset]
   refine QlK (1000,4) _ (kvF (f.ps++[(i.toNat,s)])) hperm ⟨ex0,?_⟩
   rw [←e4]
   by_cases hw:f.ps.length+1=f.n
   ·rw [if_pos hw]
    rw [decide_eq_true hw] at cw
    repeat' first | refine sp_ ?_ | exact ex0 | refine Qab Tryz.call144 (cw) [(1000,0)] ex1 ?_ | exact re0 []
   ·rw [if_neg hw]
    rw [decide_eq_false hw] at cw
    repeat' first | refine sp_ ?_ | exact ex0 | refine Qab Tryz.call144 (cw) [(1000,0)] ex1 ?_ | exact re0 []
 ·have hu:QbU f i c s=(f,4):=by
   unfold QbU
   rw [if_pos (by omega)]
  rw [hu]
  clear ho' hu
  by_cases h2:c=f.n
  ·subst h2
   by_cases h3:i<0
   ·refine Qaa Tryz.func75 rfl Tryz.ntmps75 Tryz.results75 ⟨by decide,by simp⟩ fun C hC=>?_
    refine QmY (1000,4) (kvF f.ps) ex0 fun kvs hp=>?_
    have hk:=QeD hp
    (repeat' ((fail_if_success (refine Qbf ?_));(first | refine sp_ ?_ | exact ex0 | exact re0 [])))
    refine QlK (1000,4) kvs (kvF f.ps) hp ⟨ex0,?_⟩
    repeat' first | refine sp_ ?_ | exact ex0 | exact re0 []
   ·have h4:(f.n:Int)≤i:=by omega
    refine Qaa Tryz.func75 rfl Tryz.ntmps75 Tryz.results75 ⟨by decide,by simp⟩ fun C hC=>?_
    refine QmY (1000,4) (kvF f.ps) ex0 fun kvs hp=>?_
    have hk:=QeD hp
    (repeat' ((fail_if_success (refine Qbf ?_));(first | refine sp_ ?_ | exact ex0 | exact re0 [])))
    refine QlK (1000,4) kvs (kvF f.ps) hp ⟨ex0,?_⟩
    repeat' first | refine sp_ ?_ | exact ex0 | exact re0 []
  ·refine Qaa Tryz.func75 rfl Tryz.ntmps75 Tryz.results75 ⟨by decide,by simp⟩ fun C hC=>?_
   refine QmY (1000,4) (kvF f.ps) ex0 fun kvs hp=>?_
   have hk:=QeD hp
   (repeat' ((fail_if_success (refine Qbf ?_));(first | refine sp_ ?_ | exact ex0 | exact re0 [])))
   refine QlK (1000,4) kvs (kvF f.ps) hp ⟨ex0,?_⟩
   repeat' first | refine sp_ ?_ | exact ex0 | exact re0 []
end Go.Proofs.YthfocmakkeonoaaGreatDoor
namespace Go.Proofs.YthfocmakkeonoaaGreatDoor
open Go.Shelf
def Qnn:Go.Shelf.Ren:=⟨fun | 166=>118 | 240=>171 | 276=>202 | 169=>120 | n=>n,fun | 0=>0 | 3=>3 | 4=>4 | 9=>9 | 20=>20 | 37=>75 | 70=>231 | 72=>233 | 75=>236 | 164=>322 | 5=>5 | 127=>293 | 80=>48 | n=>n,fun | n=>n⟩
theorem QCP:Go.Proofs.Lays.n166 Tryz.prog Qnn:={
 mixed:=by kernel_rfl
 f166:=Tryz.func118.trans (congrArg some (by kernel_rfl))
 f240:=Tryz.func171.trans (congrArg some (by kernel_rfl))
 f276:=Tryz.func202.trans (congrArg some (by kernel_rfl))
 t0:=Tryz.underlying0
 a0:=Tryz.isAgg0
 z0:=Tryz.sizeOf0
 v0:=Tryz.zeroValue0
 t3:=Tryz.underlying3
 a3:=Tryz.isAgg3
 z3:=Tryz.sizeOf3
 v3:=Tryz.zeroValue3
 t4:=Tryz.underlying4
 a4:=Tryz.isAgg4
 z4:=Tryz.sizeOf4
 v4:=Tryz.zeroValue4
 t9:=Tryz.underlying9
 a9:=Tryz.isAgg9
 z9:=Tryz.sizeOf9
 v9:=Tryz.zeroValue9
 t20:=Tryz.underlying20
 a20:=Tryz.isAgg20
 z20:=Tryz.sizeOf20
 v20:=Tryz.zeroValue20
 t37:=Tryz.underlying75
 a37:=Tryz.isAgg75
 z37:=Tryz.sizeOf75
 v37:=Tryz.zeroValue75
 t70:=Tryz.underlying231
 a70:=Tryz.isAgg231
 z70:=Tryz.sizeOf231
 v70:=Tryz.zeroValue231
 t72:=Tryz.underlying233
 a72:=Tryz.isAgg233
 z72:=Tryz.sizeOf233
 v72:=Tryz.zeroValue233
 t75:=Tryz.underlying236
 a75:=Tryz.isAgg236
 z75:=Tryz.sizeOf236
 v75:=Tryz.zeroValue236
 t164:=Tryz.underlying322
 a164:=Tryz.isAgg322
 z164:=Tryz.sizeOf322
 v164:=Tryz.zeroValue322 }
theorem QCQ:Go.Proofs.Lays.n169 Tryz.prog Qnn:={
 mixed:=by kernel_rfl
 f169:=Tryz.func120.trans (congrArg some (by kernel_rfl))
 t0:=Tryz.underlying0
 a0:=Tryz.isAgg0
 z0:=Tryz.sizeOf0
 v0:=Tryz.zeroValue0
 t3:=Tryz.underlying3
 a3:=Tryz.isAgg3
 z3:=Tryz.sizeOf3
 v3:=Tryz.zeroValue3
 t9:=Tryz.underlying9
 a9:=Tryz.isAgg9
 z9:=Tryz.sizeOf9
 v9:=Tryz.zeroValue9
 t37:=Tryz.underlying75
 a37:=Tryz.isAgg75
 z37:=Tryz.sizeOf75
 v37:=Tryz.zeroValue75
 t70:=Tryz.underlying231
 a70:=Tryz.isAgg231
 z70:=Tryz.sizeOf231
 v70:=Tryz.zeroValue231
 t72:=Tryz.underlying233
 a72:=Tryz.isAgg233
 z72:=Tryz.sizeOf233
 v72:=Tryz.zeroValue233
 t127:=Tryz.underlying293
 a127:=Tryz.isAgg293
 z127:=Tryz.sizeOf293
 v127:=Tryz.zeroValue293 }
theorem QFy:Builder.Extra Tryz.prog Qnn:={
 sizeBuilder:=by kernel_rfl
 liesBuilder:=by kernel_rfl
 t5:=Tryz.underlying5
 a5:=Tryz.isAgg5
 z5:=Tryz.sizeOf5
 v5:=Tryz.zeroValue5
 infoByte:=by kernel_rfl
 cellsByte:=by kernel_rfl
 sizeByte:=by kernel_rfl
 neB5:=by decide }
open Go.RowKit in
theorem QtP (B b:Nat) (bs:List Value) (s:ByteArray) (w:World) (h:Lib.IsBuilder 233 5 B b bs w) (hlen:bs.length+s.size≤140737488355328) (hBw:B≤w.heap.size) :
  Calls Tryz.prog 118 #[.pointer (some ⟨b,0,none⟩),.string s] w fun e w'=>e=.returned (.tuple #[.int .i64 s.size,.nilIface])∧(Lib.BuilderAt 233 5 B b (.pointer (some ⟨b,0,none⟩)) (bs++Lib.strCells s) w'∧Below B w w'):=
 Any.Builder_WriteString QCP QFy B b bs s w h hlen hBw
open Go.RowKit in
theorem Qqq (B b:Nat) (l:List UInt8) (w:World) (h:Lib.IsBuilder 233 5 B b (Lib.byteCells l) w) (hBw:B≤w.heap.size) :
  Calls Tryz.prog 120 #[.pointer (some ⟨b,0,none⟩)] w fun e w'=>e=.returned (.string ⟨l.toArray⟩)∧Below B w w':=
 Any.Builder_String_any QCQ QFy B b l w h hBw
end Go.Proofs.YthfocmakkeonoaaGreatDoor
