/- Layer 4: the references May and Pack, Told, Same, Cut. Layer 4: the reference Parse. Layer 4: Told, Same, Cut. -/
import Derived.Test.YthfocmakkeonoaaGreatDoorRtp4z
import Derived.Test.YthfocmakkeonoaaGreatDoorExts1z
import Derived.Test.YthfocmakkeonoaaGreatDoorRLz
import Derived.Test.YthfocmakkeonoaaGreatDoorSl0z
set_option linter.unusedVariables false
set_option linter.unusedSimpArgs false
set_option maxRecDepth 100000
set_option maxHeartbeats 16000000
namespace Go.Proofs.YthfocmakkeonoaaGreatDoor
open Go.RowKit
end Go.Proofs.YthfocmakkeonoaaGreatDoor
namespace Go.Proofs.YthfocmakkeonoaaGreatDoor
open Go.RowKit
end Go.Proofs.YthfocmakkeonoaaGreatDoor
namespace Go.Proofs.YthfocmakkeonoaaGreatDoor
open Go.RowKit
end Go.Proofs.YthfocmakkeonoaaGreatDoor
namespace Go.Proofs.YthfocmakkeonoaaGreatDoor
open Go.RowKit
end Go.Proofs.YthfocmakkeonoaaGreatDoor
namespace Go.Proofs.YthfocmakkeonoaaGreatDoor
open Go.RowKit
end Go.Proofs.YthfocmakkeonoaaGreatDoor
namespace Go.Proofs.YthfocmakkeonoaaGreatDoor
open Go.RowKit
theorem QjR (f:Nat):∀ (l:List E5),l.length≤(Qek f l).length
 | []=>by simp
 | x::l=>by
  have ih:=QjR f l
  have hh:1≤(Qej f x).length:=by
   unfold Qej
   split
   ·rw [Qaj];omega
   ·rw [List.length_append,Qaj,Qaj];omega
  unfold Qek at ih ⊢
  rw [List.flatMap_cons,List.length_append,List.length_cons]
  unfold QeQ at ih ⊢
  rw [List.length_append]
  omega
theorem Qqv (p:Int) (s:List UInt8) (h:(Qbk p s).2.2=0):(Qek (Qbw (Qbk p s).1) (Qbk p s).2.1).length≤s.length:=by
 unfold Qbk at h ⊢
 by_cases h1:QcY p=0
 ·rw [if_pos h1] at h;cases h
 rw [if_neg h1] at h ⊢
 by_cases h2:s.length % 4≠0
 ·rw [if_pos h2] at h;cases h
 rw [if_neg h2] at h ⊢
 by_cases h3:(go5 (QcY p) s).2=0
 ·rw [if_pos h3]
  obtain ⟨q1,q2,q3⟩:=QoA p h1
  obtain ⟨g1,k,g2,g3⟩:=QlT (QcY p) q1 s.length s (Nat.le_refl _) h3
  dsimp only
  rw [q3]
  have:=congrArg List.length g3
  rw [List.length_append] at this
  omega
 ·rw [if_neg h3] at h
  exact absurd h h3
end Go.Proofs.YthfocmakkeonoaaGreatDoor
namespace Go.Proofs.YthfocmakkeonoaaGreatDoor
open Go.RowKit
theorem Qud (xs:List Int) (hl:xs.length≤1099511627776):Qan Tryz.prog 52 [.ca (.val (.lst 1 (xs.map QdJ)))] [] (.ca (.val (.lst 1 (xs.map QdJ)))) []:=by
 refine Qaa Tryz.func52 rfl Tryz.ntmps52 Tryz.results52 ⟨by decide,by simp⟩ fun C hC=>?_
 repeat first | refine sp_ ?_ | exact ex0
 refine QDX 1 (xs.map QdJ) ex0 ex0 (fun b hb=>?_)
 cases b with
 | true=>
  have h0:=hb rfl
  rw [h0]
  repeat first | refine sp_ ?_ | exact ex0
  exact re0 []
 | false=>
  repeat first | refine sp_ ?_ | exact ex0
  refine ⟨⟨⟨by omega,by omega,fun r hr=>?_,fun r hr y hy=>?_⟩,by kernel_rfl⟩,?_⟩
  ·obtain ⟨n,_,rfl⟩:=List.mem_map.1 hr
   rfl
  ·obtain ⟨n,_,rfl⟩:=List.mem_map.1 hr
   simp [QdJ] at hy
   subst hy
   rfl
  repeat first | refine sp_ ?_ | exact ex0
  exact re0 []
def at5 (l:List E5) (id:Int):Nat:=l.findIdx fun x=>decide (x.id=id)
def QeR (l:List E5) (id:Int):Option (List UInt8):=(l.find? fun x=>decide (x.id=id)).map (·.data)
theorem Qqw (x:E5) (id:Int):Qan Tryz.prog 178 [.ca (.val (.agg (e5L x))),.ptr 0 0] [[.val (vi id)]] (.ca (.val (vb (decide (x.id=id))))) [[.val (vi id)]]:=by
 refine Qaa Tryz.func178 rfl Tryz.ntmps178 Tryz.results178 ⟨by decide,by simp⟩ fun C hC=>?_
 by_cases h:x.id=id
 ·rw [decide_eq_true h]
  repeat first | refine sp_ ?_ | exact ex0
  exact re0 []
 ·rw [decide_eq_false h]
  repeat first | refine sp_ ?_ | exact ex0
  exact re0 []
theorem QCY (l:List E5) (id:Int) (hl:l.length≤maxLen):Qan Tryz.prog 177 [.ca (.val (.lst 2 (l.map Qqf))),.fn 178 [.ptr 0 0]] [[.val (vi id)]] (.ca (.val (vi (if at5 l id<l.length then at5 l id else -1)))) [[.val (vi id)]]:=by
 unfold maxLen at hl
 refine Qaa Tryz.func177 rfl Tryz.ntmps177 Tryz.results177 ⟨by decide,by simp⟩ fun C hC=>?_
 repeat first | refine sp_ ?_ | exact ex0
 refine QaD (α:={j:Nat // j≤l.length∧∀ i,(h:i<l.length)→i<j→l[i].id≠id}) (fun j=>[(.s 0,.av (.val (.lst 2 (l.map Qqf)))),(.s 1,.av (.fn 178 [.ptr (1000,0) 0 0])),(.o (1000,0),.num 1),(.c (1000,0) 0,.av (.val (vi id))),(.s 7,.av (.val (vi l.length))),(.s 8,.av (.val (vi j.1)))]) (fun j=>l.length-j.1) ⟨0,Nat.zero_le _,fun i _ h=>absurd h (by omega)⟩ ?_ (fun j=>?_)
 ·exact ex0
 ·obtain ⟨j,hj,hn⟩:=j
  dsimp only at hj hn ⊢
  by_cases hlt:j<l.length
  ·have c:=Qqw l[j] id
   by_cases he:l[j].id=id
   ·have ha:at5 l id=j:=by
     unfold at5
     refine List.findIdx_eq hlt |>.2 ⟨decide_eq_true he,fun i hi=>decide_eq_false (hn i (by omega) hi)⟩
    rw [decide_eq_true he] at c
    rw [ha,if_pos hlt]
    repeat first | refine sp_ ?_ | exact ex0
    refine Qgy Tryz.call178 c [(1000,0)] [.ptr (1000,0) 0 0] ?_
    repeat first | refine sp_ ?_ | exact ex0
    exact re0 []
   ·rw [decide_eq_false he] at c
    repeat first | refine sp_ ?_ | exact ex0
    refine Qgy Tryz.call178 c [(1000,0)] [.ptr (1000,0) 0 0] ?_
    repeat first | refine sp_ ?_ | exact ex0
    refine Qau (α:={j:Nat // j≤l.length∧∀ i,(h:i<l.length)→i<j→l[i].id≠id}) ⟨j+1,hlt,fun i h1 h2=>?_⟩ ⟨?_,by dsimp only;omega⟩
    ·by_cases hij:i=j
     ·subst hij;exact he
     ·exact hn i h1 (by omega)
    ·exact ex0
  ·have ha:¬at5 l id<l.length:=by
    intro h
    have h2:=List.findIdx_getElem (w:=h)
    exact hn _ h (by omega) (of_decide_eq_true h2)
   rw [if_neg ha]
   repeat first | refine sp_ ?_ | exact ex0
   exact re0 []
theorem Qw2 (l:List E5) (id:Int):(at5 l id<l.length→∃ h:at5 l id<l.length,QeR l id=some l[at5 l id].data)∧(¬at5 l id<l.length→QeR l id=none):=by
 constructor
 ·intro h
  refine ⟨h,?_⟩
  unfold QeR
  have h1:l.find? (fun x=>decide (x.id=id))=some l[at5 l id]:=by
   rw [List.find?_eq_some_iff_getElem]
   refine ⟨List.findIdx_getElem (w:=h),at5 l id,h,rfl,fun j hj=>?_⟩
   simpa using List.not_of_lt_findIdx hj
  rw [h1];rfl
 ·intro h
  unfold QeR
  have h1:l.find? (fun x=>decide (x.id=id))=none:=by
   rw [List.find?_eq_none]
   intro x hx he
   apply h
   unfold at5
   exact List.findIdx_lt_length_of_exists ⟨x,hx,he⟩
  rw [h1];rfl
theorem Qmc (l:List E5) (id:Int) (hl:l.length≤maxLen):Qan Tryz.prog 130 [.ca (.val (.lst 2 (l.map Qqf))),.ca (.val (vi id))] [] (.ca (.val (.tup [vs ((QeR l id).getD []),vb (QeR l id).isSome]))) []:=by
 have c:=QCY l id hl
 have ha:=Qw2 l id
 unfold maxLen at hl
 by_cases h:at5 l id<l.length
 ·obtain ⟨_,hf⟩:=ha.1 h
  rw [if_pos h] at c
  rw [hf]
  generalize at5 l id=j at *
  refine Qaa Tryz.func130 rfl Tryz.ntmps130 Tryz.results130 ⟨by decide,by simp⟩ fun C hC=>?_
  repeat first | refine sp_ ?_ | exact ex0
  refine Qac Tryz.call177 c [(3,0)] ?_
  repeat first | refine sp_ ?_ | exact ex0
  exact re0 []
 ·have hf:=ha.2 h
  rw [if_neg h] at c
  rw [hf]
  refine Qaa Tryz.func130 rfl Tryz.ntmps130 Tryz.results130 ⟨by decide,by simp⟩ fun C hC=>?_
  repeat first | refine sp_ ?_ | exact ex0
  refine Qac Tryz.call177 c [(3,0)] ?_
  repeat first | refine sp_ ?_ | exact ex0
  exact re0 []
theorem QAi (p:P4) (hl:p.ext.length≤1000000):Qan Tryz.prog 129 [.ca (.val (.agg (h4L p)))] [] (.ca (.val (.tup [vi (if p.hasExt=true then (Qbk p.profile p.ext).1 else 0),.lst 2 ((if p.hasExt=true then (Qbk p.profile p.ext).2.1 else []).map Qqf),vi (if p.hasExt=true then (Qbk p.profile p.ext).2.2 else 0)]))) []:=by
 have c:=Qql p.profile p.ext hl
 obtain ⟨mk,kd,sq,tm,sr,os,hx,pf,ex,da,pd⟩:=p
 dsimp only at *
 cases hx with
 | true=>
  simp only [if_true]
  refine Qaa Tryz.func129 rfl Tryz.ntmps129 Tryz.results129 ⟨by decide,by simp⟩ fun C hC=>?_
  repeat first | refine sp_ ?_ | exact ex0
  refine Qac Tryz.call176 c [] ?_
  repeat first | refine sp_ ?_ | exact ex0
  exact re0 []
 | false=>
  simp only [Bool.false_eq_true,if_false,List.map_nil]
  refine Qaa Tryz.func129 rfl Tryz.ntmps129 Tryz.results129 ⟨by decide,by simp⟩ fun C hC=>?_
  repeat first | refine sp_ ?_ | exact ex0
  exact re0 []
def QAj (p:P4) (n:Int) (l:List E5):P4:=if (QdZ n l).2.2=0 then { p with hasExt:=true,profile:=(QdZ n l).1,ext:=(QdZ n l).2.1 } else no4
theorem Que (p:P4) (n:Int) (l:List E5) (ho:p.others.length≤1099511627776) (hl:l.length≤maxLen) (hr:(Qek (Qbw n) l).length≤1000000000):Qan Tryz.prog 20 [.ca (.val (.agg (h4L p))),.ca (.val (vi n)),.ca (.val (.lst 2 (l.map Qqf)))] [] (.ca (.val (.tup [.agg (h4L (QAj p n l)),vi (QdZ n l).2.2]))) []:=by
 have c1:=Qtm n l hl hr
 have c2:=Qud p.others ho
 unfold QAj
 generalize QdZ n l=R at *
 obtain ⟨q,s,e⟩:=R
 obtain ⟨mk,kd,sq,tm,sr,os,hx,pf,ex,da,pd⟩:=p
 dsimp only at *
 by_cases he:e=0
 ·subst he
  simp only [if_true]
  refine Qaa Tryz.func20 rfl Tryz.ntmps20 Tryz.results20 ⟨by decide,by simp⟩ fun C hC=>?_
  repeat first | refine sp_ ?_ | exact ex0
  refine Qac Tryz.call51 c1 [] ?_
  repeat first | refine sp_ ?_ | exact ex0
  refine Qac Tryz.call52 c2 [] ?_
  repeat first | refine sp_ ?_ | exact ex0
  exact re0 []
 ·simp only [if_neg he]
  unfold no4
  refine Qaa Tryz.func20 rfl Tryz.ntmps20 Tryz.results20 ⟨by decide,by simp⟩ fun C hC=>?_
  repeat first | refine sp_ ?_ | exact ex0
  refine Qac Tryz.call51 c1 [] ?_
  repeat first | refine sp_ ?_ | exact ex0
  exact re0 []
end Go.Proofs.YthfocmakkeonoaaGreatDoor
namespace Go.Proofs.YthfocmakkeonoaaGreatDoor
open Go.RowKit
end Go.Proofs.YthfocmakkeonoaaGreatDoor
namespace Go.Proofs.YthfocmakkeonoaaGreatDoor
open Go.RowKit
abbrev m6L (m:M6):List V:=[vu m.src,vh m.seq,vu m.time,vi m.path,vh m.pseq,vi m.idx,vi m.cnt,vs m.data]
theorem Quf (p q:Int):Qan Tryz.prog 48 [.ca (.val (.agg [vi p,vh q]))] [] (.ca (.val (vb (decide (1≤p∧p≤15))))) []:=by
 by_cases h1:1≤p
 ·by_cases h2:p≤15
  ·rw [decide_eq_true ⟨h1,h2⟩]
   refine Qaa Tryz.func48 rfl Tryz.ntmps48 Tryz.results48 ⟨by decide,by simp⟩ fun C hC=>?_
   repeat first | refine sp_ ?_ | exact ex0
   exact re0 []
  ·rw [decide_eq_false (fun h=>h2 h.2)]
   refine Qaa Tryz.func48 rfl Tryz.ntmps48 Tryz.results48 ⟨by decide,by simp⟩ fun C hC=>?_
   repeat first | refine sp_ ?_ | exact ex0
   exact re0 []
 ·rw [decide_eq_false (fun h=>h1 h.1)]
  refine Qaa Tryz.func48 rfl Tryz.ntmps48 Tryz.results48 ⟨by decide,by simp⟩ fun C hC=>?_
  repeat first | refine sp_ ?_ | exact ex0
  exact re0 []
theorem Qqx (i c:Int):Qan Tryz.prog 49 [.ca (.val (.agg [vi i,vi c]))] [] (.ca (.val (vb (decide ((1≤c∧c≤255)∧0≤i∧i<c))))) []:=by
 by_cases h1:1≤c
 ·by_cases h2:c≤255
  ·by_cases h3:0≤i
   ·by_cases h4:i<c
    ·rw [decide_eq_true ⟨⟨h1,h2⟩,h3,h4⟩]
     refine Qaa Tryz.func49 rfl Tryz.ntmps49 Tryz.results49 ⟨by decide,by simp⟩ fun C hC=>?_
     repeat first | refine sp_ ?_ | exact ex0
     exact re0 []
    ·rw [decide_eq_false (fun h=>h4 h.2.2)]
     refine Qaa Tryz.func49 rfl Tryz.ntmps49 Tryz.results49 ⟨by decide,by simp⟩ fun C hC=>?_
     repeat first | refine sp_ ?_ | exact ex0
     exact re0 []
   ·rw [decide_eq_false (fun h=>h3 h.2.1)]
    refine Qaa Tryz.func49 rfl Tryz.ntmps49 Tryz.results49 ⟨by decide,by simp⟩ fun C hC=>?_
    repeat first | refine sp_ ?_ | exact ex0
    exact re0 []
  ·rw [decide_eq_false (fun h=>h2 h.1.2)]
   refine Qaa Tryz.func49 rfl Tryz.ntmps49 Tryz.results49 ⟨by decide,by simp⟩ fun C hC=>?_
   repeat first | refine sp_ ?_ | exact ex0
   exact re0 []
 ·rw [decide_eq_false (fun h=>h1 h.1.1)]
  refine Qaa Tryz.func49 rfl Tryz.ntmps49 Tryz.results49 ⟨by decide,by simp⟩ fun C hC=>?_
  repeat first | refine sp_ ?_ | exact ex0
  exact re0 []
theorem Qqy (i c:Int) (h1:-9223372036854775807≤c) (h2:c≤9223372036854775807):Qan Tryz.prog 21 [.ca (.val (.agg [vi i,vi c]))] [] (.ca (.val (vb (decide (i=c-1))))) []:=by
 by_cases h:i=c-1
 ·rw [decide_eq_true h]
  refine Qaa Tryz.func21 rfl Tryz.ntmps21 Tryz.results21 ⟨by decide,by simp⟩ fun C hC=>?_
  repeat first | refine sp_ ?_ | exact ex0
  exact re0 []
 ·rw [decide_eq_false h]
  refine Qaa Tryz.func21 rfl Tryz.ntmps21 Tryz.results21 ⟨by decide,by simp⟩ fun C hC=>?_
  repeat first | refine sp_ ?_ | exact ex0
  exact re0 []
theorem Qns (m:M6) (hl:m.data.length≤maxLen):Qan Tryz.prog 17 [.ca (.val (.agg (m6L m)))] [] (.ca (.val (vi (if QoG m=true then 0 else 6)))) []:=by
 obtain ⟨M,hM⟩:∃ M,M=QoG m:=⟨_,rfl⟩
 rw [←hM]
 unfold QoG at hM
 unfold maxLen at hl
 have c1:=Quf m.path m.pseq
 have c2:=Qqx m.idx m.cnt
 obtain ⟨sr,sq,tm,pa,ps,ix,ct,da⟩:=m
 dsimp only at *
 by_cases h1:1≤pa∧pa≤15
 ·rw [decide_eq_true h1] at c1
  by_cases h2:(1≤ct∧ct≤255)∧0≤ix∧ix<ct
  ·rw [decide_eq_true h2] at c2
   by_cases h3:da.length≤1472
   ·rw [decide_eq_true ⟨h1,h2.1,h2.2,h3⟩] at hM
    subst hM
    rw [if_pos rfl]
    refine Qaa Tryz.func17 rfl Tryz.ntmps17 Tryz.results17 ⟨by decide,by simp⟩ fun C hC=>?_
    repeat first | refine sp_ ?_ | exact ex0
    refine Qac Tryz.call48 c1 [] ?_
    repeat first | refine sp_ ?_ | exact ex0
    refine Qbt Tryz.call49 c2 [] ?_
    repeat first | refine sp_ ?_ | exact ex0
    exact re0 []
   ·rw [decide_eq_false (fun h=>h3 h.2.2.2)] at hM
    subst hM
    rw [if_neg (by decide)]
    refine Qaa Tryz.func17 rfl Tryz.ntmps17 Tryz.results17 ⟨by decide,by simp⟩ fun C hC=>?_
    repeat first | refine sp_ ?_ | exact ex0
    refine Qac Tryz.call48 c1 [] ?_
    repeat first | refine sp_ ?_ | exact ex0
    refine Qbt Tryz.call49 c2 [] ?_
    repeat first | refine sp_ ?_ | exact ex0
    exact re0 []
  ·rw [decide_eq_false h2] at c2
   rw [decide_eq_false (fun h=>h2 ⟨h.2.1,h.2.2.1⟩)] at hM
   subst hM
   rw [if_neg (by decide)]
   refine Qaa Tryz.func17 rfl Tryz.ntmps17 Tryz.results17 ⟨by decide,by simp⟩ fun C hC=>?_
   repeat first | refine sp_ ?_ | exact ex0
   refine Qac Tryz.call48 c1 [] ?_
   repeat first | refine sp_ ?_ | exact ex0
   refine Qbt Tryz.call49 c2 [] ?_
   repeat first | refine sp_ ?_ | exact ex0
   exact re0 []
 ·rw [decide_eq_false h1] at c1
  rw [decide_eq_false (fun h=>h1 h.1)] at hM
  subst hM
  rw [if_neg (by decide)]
  refine Qaa Tryz.func17 rfl Tryz.ntmps17 Tryz.results17 ⟨by decide,by simp⟩ fun C hC=>?_
  repeat first | refine sp_ ?_ | exact ex0
  refine Qac Tryz.call48 c1 [] ?_
  repeat first | refine sp_ ?_ | exact ex0
  exact re0 []
theorem QgQ (m:M6) (ho:m.Ok) (hl:m.data.length≤maxLen):Qan Tryz.prog 9 [.ca (.val (.agg (m6L m)))] [] (.ca (.val (vs (Qcb m)))) []:=by
 have c0:=Qns m hl
 cases hm:QoG m with
 | false=>
  rw [(Ql0 m).2 hm]
  rw [hm,if_neg (by decide)] at c0
  obtain ⟨sr,sq,tm,pa,ps,ix,ct,da⟩:=m
  refine Qaa Tryz.func9 rfl Tryz.ntmps9 Tryz.results9 ⟨by decide,by simp⟩ fun C hC=>?_
  repeat first | refine sp_ ?_ | exact ex0
  refine Qac Tryz.call17 c0 [] ?_
  repeat first | refine sp_ ?_ | exact ex0
  exact re0 []
 | true=>
  have hp:Qcb m=Qf4 (Qfk m) m.data:=by unfold Qcb;rw [if_pos hm]
  rw [hm,if_pos rfl] at c0
  obtain ⟨⟨m1,m2⟩,⟨m3,m4⟩,⟨m5,m6⟩,m7⟩:=(QkC m).1 hm
  have ho':=ho
  obtain ⟨o1,o2,o3,o4⟩:=ho
  have k1:=QdS [] [m.path] (by simp)
  have k2:=Qfi (QaK m.path 1) [m.pseq] (by rw [Qaj];simp)
  have k3:=QdS [] [m.idx,m.cnt] (by simp)
  have z1:QaK m.path 1++Qah 2 [m.pseq]=QaK m.path 1++QaK m.pseq 2:=by simp [Qah]
  have z2:[]++Qah 1 [m.path]=QaK m.path 1:=by simp [Qah]
  have z3:[]++Qah 1 [m.idx,m.cnt]=QaK m.idx 1++QaK m.cnt 1:=by simp [Qah]
  rw [z2] at k1
  rw [z1] at k2
  rw [z3] at k3
  have k4:=Qqy m.idx m.cnt (by omega) (by omega)
  have k5:=Qa3 (QaK m.path 1++QaK m.pseq 2) (by rw [List.length_append,Qaj,Qaj];omega)
  have k6:=Qa3 (QaK m.idx 1++QaK m.cnt 1) (by rw [List.length_append,Qaj,Qaj];omega)
  have k7:=Que ⟨decide (m.idx=m.cnt-1),96,m.seq,m.time,m.src,[],false,0,[],[],0⟩ 1 (QjN m [0,0,0,0]) (by simp) (by unfold QjN maxLen;simp) (by
   have e:Qbw 1=1:=rfl
   have:=Qf6 m [0,0,0,0] rfl
   unfold Qcp at this
   rw [List.length_append] at this
   rw [e];omega)
  unfold QAj at k7
  rw [Qty m [0,0,0,0] rfl] at k7
  dsimp only at k7
  rw [if_pos rfl] at k7
  have k8:=Qwx (pk6 m [0,0,0,0]) (QFx m _ ho') (by
   have h1:=Qf6 m [0,0,0,0] rfl
   have h2:(pk6 m [0,0,0,0]).ext=Qcp 1 (QjN m [0,0,0,0]):=rfl
   rw [h2,h1];decide) (by
   have h2:(pk6 m [0,0,0,0]).data=m.data:=rfl
   rw [h2];omega)
  have k9:Qnc (pk6 m [0,0,0,0])=Qf7 m [0,0,0,0]:=by
   unfold Qnc
   rw [if_pos (QCD m _ rfl),QCC m _ rfl]
   rfl
  rw [k9] at k8
  have k10:=QoF (Qf7 m [0,0,0,0]) 24 (by rw [QgL m _ rfl];omega)
  have k11:Qhb (Qf7 m [0,0,0,0]) 24=true:=decide_eq_true (by rw [QgL m _ rfl];omega)
  rw [QE4,k11] at k10
  rw [hp]
  generalize Qf4 (Qfk m) m.data=S at *
  generalize Qf7 m [0,0,0,0]=Q at *
  unfold pk6 at k8
  unfold QjN at k7 k8
  generalize Qcp 1 _=X at *
  clear hp k9 hm
  obtain ⟨sr,sq,tm,pa,ps,ix,ct,da⟩:=m
  dsimp only at *
  refine Qaa Tryz.func9 rfl Tryz.ntmps9 Tryz.results9 ⟨by decide,by simp⟩ fun C hC=>?_
  repeat first | refine sp_ ?_ | exact ex0
  refine Qac Tryz.call17 c0 [] ?_
  repeat first | refine sp_ ?_ | exact ex0
  refine Qac Tryz.call18 k1 [(3,0)] ?_
  repeat first | refine sp_ ?_ | exact ex0
  refine Qac Tryz.call19 k2 [(3,0)] ?_
  repeat first | refine sp_ ?_ | exact ex0
  refine Qac Tryz.call18 k3 [(4,0)] ?_
  repeat first | refine sp_ ?_ | exact ex0
  refine Qac Tryz.call21 k4 [] ?_
  repeat first | refine sp_ ?_ | exact ex0
  refine Qac Tryz.call22 k5 [(3,0)] ?_
  repeat first | refine sp_ ?_ | exact ex0
  refine Qac Tryz.call22 k6 [(4,0)] ?_
  repeat first | refine sp_ ?_ | exact ex0
  refine Qac Tryz.call20 k7 [] ?_
  repeat first | refine sp_ ?_ | exact ex0
  refine Qac Tryz.call24 k8 [] ?_
  repeat first | refine sp_ ?_ | exact ex0
  refine Qac Tryz.call23 k10 [] ?_
  repeat first | refine sp_ ?_ | exact ex0
  exact re0 []
end Go.Proofs.YthfocmakkeonoaaGreatDoor
namespace Go.Proofs.YthfocmakkeonoaaGreatDoor
open Go.RowKit
theorem Qjj (p:P4) (hl:p.ext.length≤1000000):Qan Tryz.prog 63 [.ca (.val (.agg (p4L p)))] [] (.ca (.val (.tup [.lst 2 ((if p.hasExt=true then (Qbk p.profile p.ext).2.1 else []).map Qqf),vi (if p.hasExt=true then (Qbk p.profile p.ext).2.2 else 5)]))) []:=by
 have c:=QAi p hl
 obtain ⟨mk,kd,sq,tm,sr,os,hx,pf,ex,da,pd⟩:=p
 dsimp only at *
 cases hx with
 | true=>
  simp only [if_true] at c ⊢
  refine Qaa Tryz.func63 rfl Tryz.ntmps63 Tryz.results63 ⟨by decide,by simp⟩ fun C hC=>?_
  repeat first | refine sp_ ?_ | exact ex0
  refine Qac Tryz.call129 c [] ?_
  repeat first | refine sp_ ?_ | exact ex0
  exact re0 []
 | false=>
  simp only [Bool.false_eq_true,if_false,List.map_nil]
  refine Qaa Tryz.func63 rfl Tryz.ntmps63 Tryz.results63 ⟨by decide,by simp⟩ fun C hC=>?_
  repeat first | refine sp_ ?_ | exact ex0
  exact re0 []
theorem Qmd (l:List E5) (id:Int) (hd:∀ x∈l,x.data.length≤maxLen):((QeR l id).getD []).length≤maxLen:=by
 unfold QeR
 cases h:l.find? (fun x=>decide (x.id=id)) with
 | none=>simp [maxLen]
 | some x=>exact hd x (List.mem_of_find?_eq_some h)
theorem QoU (l:List UInt8) (e n:Int):(Qct l e n).length≤l.length:=by
 unfold Qct Qhk
 split
 ·rw [List.length_drop];omega
 ·split
  ·simp
  ·exact Nat.le_refl _
theorem Qqz (p:P4) (l:List E5) (hl:l.length≤maxLen) (hd:∀ x∈l,x.data.length≤maxLen):Qan Tryz.prog 64 [.ca (.val (.agg (p4L p))),.ca (.val (.lst 2 (l.map Qqf)))] [] (.ca (.val (.agg (m6L (rd6 p l))))) []:=by
 have c1:=Qmc l 1 hl
 have c2:=Qmc l 2 hl
 have la:=Qmd l 1 hd
 have lb:=Qmd l 2 hd
 have e0:rd6 p l=⟨p.src,p.seq,p.time,QaP (QbB ((QeR l 1).getD []) 1),QaP (QbB (Qct ((QeR l 1).getD []) 0 1) 2),QaP (QbB ((QeR l 2).getD []) 1),QaP (QbB (Qct ((QeR l 2).getD []) 0 1) 1),p.data⟩:=rfl
 rw [e0]
 generalize (QeR l 1).getD []=a at *
 generalize (QeR l 2).getD []=b at *
 generalize (QeR l 1).isSome=A at *
 generalize (QeR l 2).isSome=B at *
 clear e0
 have k1:=Qe0 a
 have k2:=Qe0 b
 have k3:=Qp6 a 0 la
 have k4:=Qs5 (Qct a 0 1) (QdY a 0 1) (Nat.le_trans (QoU _ _ _) la)
 have k5:=Qp6 b 0 lb
 have k6:=Qp6 (Qct b 0 1) (QdY b 0 1) (Nat.le_trans (QoU _ _ _) lb)
 have h16:(QaP (QbB (Qct a 0 1) 2):Int)<65536:=QiA (Qct a 0 1) 2 65536 (by decide)
 obtain ⟨mk,kd,sq,tm,sr,os,hx,pf,ex,da,pd⟩:=p
 refine Qaa Tryz.func64 rfl Tryz.ntmps64 Tryz.results64 ⟨by decide,by simp⟩ fun C hC=>?_
 repeat first | refine sp_ ?_ | exact ex0
 refine Qac Tryz.call130 c1 [] ?_
 repeat first | refine sp_ ?_ | exact ex0
 refine Qac Tryz.call130 c2 [] ?_
 repeat first | refine sp_ ?_ | exact ex0
 refine Qac Tryz.call121 k1 [] ?_
 repeat first | refine sp_ ?_ | exact ex0
 refine Qac Tryz.call121 k2 [] ?_
 repeat first | refine sp_ ?_ | exact ex0
 refine Qac Tryz.call122 k3 [(35,0)] ?_
 repeat first | refine sp_ ?_ | exact ex0
 refine Qac Tryz.call123 k4 [(35,0)] ?_
 repeat first | refine sp_ ?_ | exact ex0
 refine Qac Tryz.call122 k5 [(37,0)] ?_
 repeat first | refine sp_ ?_ | exact ex0
 refine Qac Tryz.call122 k6 [(37,0)] ?_
 repeat first | refine sp_ ?_ | exact ex0
 exact re0 []
theorem QCZ (p:P4) (l:List E5) (hp:p.Ok):(rd6 p l).Ok:=by
 refine ⟨hp.src,hp.seq,hp.time,?_⟩
 show 0≤(QaP (QbB (Qct (rd6.find5' l 1) 0 1) 2):Int)∧(QaP (QbB (Qct (rd6.find5' l 1) 0 1) 2):Int)<65536
 exact ⟨by omega,QiA _ 2 65536 (by decide)⟩
theorem QqA (p:P4):p.data.length≤(QeP p).length:=by
 unfold QeP
 simp only [List.length_append]
 omega
theorem QiQ (s:List UInt8) (hl:s.length≤1099511627776):Qan Tryz.prog 25 [.ca (.val (vs s))] [] (.ca (.val (.tup [.agg (m6L (Qa4 s).1),vi (Qa4 s).2]))) []:=by
 obtain ⟨R,hR⟩:∃ R,R=Qa4 s:=⟨_,rfl⟩
 rw [←hR]
 unfold Qa4 at hR
 by_cases h1:1500<s.length
 ·rw [if_pos h1] at hR
  subst hR
  unfold no6
  refine Qaa Tryz.func25 rfl Tryz.ntmps25 Tryz.results25 ⟨by decide,by simp⟩ fun C hC=>?_
  repeat first | refine sp_ ?_ | exact ex0
  exact re0 []
 rw [if_neg h1] at hR
 have c1:=Qtw s (by unfold maxLen;omega)
 by_cases h2:rem s≠0
 ·rw [if_pos h2] at hR
  rw [decide_eq_false h2] at c1
  subst hR
  unfold no6
  refine Qaa Tryz.func25 rfl Tryz.ntmps25 Tryz.results25 ⟨by decide,by simp⟩ fun C hC=>?_
  repeat first | refine sp_ ?_ | exact ex0
  refine Qac Tryz.call61 c1 [] ?_
  repeat first | refine sp_ ?_ | exact ex0
  exact re0 []
 rw [if_neg h2] at hR
 rw [decide_eq_true (Classical.not_not.1 h2)] at c1
 have c2:=Quc s (by unfold maxLen;omega)
 have hpp:(Qbe s).2=0→QeP (Qbe s).1=s∧Qoy (Qbe s).1=true∧(Qbe s).1.Ok:=fun h=>Qqb s (Qbe s).1 (by rw [←h]) (by omega)
 generalize Qbe s=Q at *
 obtain ⟨p,e⟩:=Q
 dsimp only at *
 by_cases h3:e≠0
 ·rw [if_pos h3] at hR
  subst hR
  unfold no6
  obtain ⟨mk,kd,sq,tm,sr,os,hx,pf,ex,da,pd⟩:=p
  refine Qaa Tryz.func25 rfl Tryz.ntmps25 Tryz.results25 ⟨by decide,by simp⟩ fun C hC=>?_
  repeat first | refine sp_ ?_ | exact ex0
  refine Qac Tryz.call61 c1 [] ?_
  repeat first | refine sp_ ?_ | exact ex0
  refine Qac Tryz.call62 c2 [] ?_
  repeat first | refine sp_ ?_ | exact ex0
  exact re0 []
 rw [if_neg h3] at hR
 have h3:e=0:=Classical.not_not.1 h3
 subst h3
 obtain ⟨hbody,hmay,hok⟩:=hpp rfl
 have hext:p.ext.length≤262140:=by
  have:=((QdK p).1 hmay).2.2.2.2
  cases hx:p.hasExt with
  | true=>rw [hx,if_pos rfl] at this;exact this.2
  | false=>rw [hx,if_neg (by decide)] at this;rw [this.2];simp
 have hdat:p.data.length≤maxLen:=by
  have:=QqA p
  rw [hbody] at this
  unfold maxLen;omega
 have c3:=Qjj p (by omega)
 by_cases h4:p.hasExt=false
 ·rw [if_pos h4] at hR
  rw [h4,if_neg (by decide),if_neg (by decide)] at c3
  subst hR
  unfold no6
  obtain ⟨mk,kd,sq,tm,sr,os,hx,pf,ex,da,pd⟩:=p
  refine Qaa Tryz.func25 rfl Tryz.ntmps25 Tryz.results25 ⟨by decide,by simp⟩ fun C hC=>?_
  repeat first | refine sp_ ?_ | exact ex0
  refine Qac Tryz.call61 c1 [] ?_
  repeat first | refine sp_ ?_ | exact ex0
  refine Qac Tryz.call62 c2 [] ?_
  repeat first | refine sp_ ?_ | exact ex0
  refine Qac Tryz.call63 c3 [] ?_
  repeat first | refine sp_ ?_ | exact ex0
  exact re0 []
 rw [if_neg h4] at hR
 have h4:p.hasExt=true:=by cases hx:p.hasExt with
  | true=>rfl
  | false=>exact absurd hx h4
 rw [if_pos h4,if_pos h4] at c3
 have hraw:=Qqv p.profile p.ext
 have hcnt:=QjR (Qbw (Qbk p.profile p.ext).1) (Qbk p.profile p.ext).2.1
 have hdt:=QlX (Qbw (Qbk p.profile p.ext).1) (Qbk p.profile p.ext).2.1
 generalize Qbk p.profile p.ext=X at *
 obtain ⟨f,l,g⟩:=X
 dsimp only at *
 by_cases h5:g≠0
 ·rw [if_pos h5] at hR
  subst hR
  unfold no6
  obtain ⟨mk,kd,sq,tm,sr,os,hx,pf,ex,da,pd⟩:=p
  refine Qaa Tryz.func25 rfl Tryz.ntmps25 Tryz.results25 ⟨by decide,by simp⟩ fun C hC=>?_
  repeat first | refine sp_ ?_ | exact ex0
  refine Qac Tryz.call61 c1 [] ?_
  repeat first | refine sp_ ?_ | exact ex0
  refine Qac Tryz.call62 c2 [] ?_
  repeat first | refine sp_ ?_ | exact ex0
  refine Qac Tryz.call63 c3 [] ?_
  repeat first | refine sp_ ?_ | exact ex0
  exact re0 []
 rw [if_neg h5] at hR
 have h5:g=0:=Classical.not_not.1 h5
 subst h5
 have hraw:=hraw rfl
 have c4:=Qqz p l (by unfold maxLen;omega) (fun x hx=>by
  have:=hdt x hx
  unfold maxLen;omega)
 have c5:=QgQ (rd6 p l) (QCZ p l hok) hdat
 generalize rd6 p l=m at *
 generalize Qcb m=t at *
 obtain ⟨sr2,sq2,tm2,pa,ps,ix,ct,da2⟩:=m
 obtain ⟨mk,kd,sq,tm,sr,os,hx,pf,ex,da,pd⟩:=p
 by_cases h6:t=s
 ·rw [if_pos h6] at hR
  have hb:(t == s)=true:=by rw [h6];exact beq_self_eq_true s
  subst hR
  refine Qaa Tryz.func25 rfl Tryz.ntmps25 Tryz.results25 ⟨by decide,by simp⟩ fun C hC=>?_
  repeat first | refine sp_ ?_ | exact ex0
  refine Qac Tryz.call61 c1 [] ?_
  repeat first | refine sp_ ?_ | exact ex0
  refine Qac Tryz.call62 c2 [] ?_
  repeat first | refine sp_ ?_ | exact ex0
  refine Qac Tryz.call63 c3 [] ?_
  repeat first | refine sp_ ?_ | exact ex0
  refine Qac Tryz.call64 c4 [] ?_
  repeat first | refine sp_ ?_ | exact ex0
  refine Qac Tryz.call9 c5 [] ?_
  repeat first | refine sp_ ?_ | exact ex0
  simp only [hb]
  repeat first | refine sp_ ?_ | exact ex0
  exact re0 []
 ·rw [if_neg h6] at hR
  have hb:(t == s)=false:=by simpa using h6
  subst hR
  unfold no6
  refine Qaa Tryz.func25 rfl Tryz.ntmps25 Tryz.results25 ⟨by decide,by simp⟩ fun C hC=>?_
  repeat first | refine sp_ ?_ | exact ex0
  refine Qac Tryz.call61 c1 [] ?_
  repeat first | refine sp_ ?_ | exact ex0
  refine Qac Tryz.call62 c2 [] ?_
  repeat first | refine sp_ ?_ | exact ex0
  refine Qac Tryz.call63 c3 [] ?_
  repeat first | refine sp_ ?_ | exact ex0
  refine Qac Tryz.call64 c4 [] ?_
  repeat first | refine sp_ ?_ | exact ex0
  refine Qac Tryz.call9 c5 [] ?_
  repeat first | refine sp_ ?_ | exact ex0
  simp only [hb]
  repeat first | refine sp_ ?_ | exact ex0
  exact re0 []
end Go.Proofs.YthfocmakkeonoaaGreatDoor
