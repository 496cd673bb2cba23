/- Layer 11 (subflow): parts, pieces, and back; walked. -/
import Derived.Test.YthfocmakkeonoaaGreatDoorQCmp07z
import Derived.Test.YthfocmakkeonoaaGreatDoorQCmp07z
set_option linter.unusedVariables false
set_option linter.unusedSimpArgs false
set_option maxRecDepth 100000
set_option maxHeartbeats 16000000
namespace Go.Proofs.YthfocmakkeonoaaGreatDoor
open Go.RowKit
theorem Qdy (n lo hi:Int):Qan Tryz.prog 282 [.ca (.val (vi n)),.ca (.val (vi lo)),.ca (.val (vi hi))] [] (.ca (.val (vb (decide (lo≤n∧n≤hi))))) []:=by
 by_cases h1:lo≤n
 ·by_cases h2:n≤hi
  ·rw [decide_eq_true ⟨h1,h2⟩]
   refine Qaa Tryz.func282 rfl Tryz.ntmps282 Tryz.results282 ⟨by decide,by simp⟩ fun C hC=>?_
   repeat' first | refine sp_ ?_ | exact ex0 | exact re0 []
  ·rw [decide_eq_false (fun h=>h2 h.2)]
   refine Qaa Tryz.func282 rfl Tryz.ntmps282 Tryz.results282 ⟨by decide,by simp⟩ fun C hC=>?_
   repeat' first | refine sp_ ?_ | exact ex0 | exact re0 []
 ·rw [decide_eq_false (fun h=>h1 h.1)]
  refine Qaa Tryz.func282 rfl Tryz.ntmps282 Tryz.results282 ⟨by decide,by simp⟩ fun C hC=>?_
  repeat' first | refine sp_ ?_ | exact ex0 | exact re0 []
theorem Qxr (x:A11):Qan Tryz.prog 285 [.ca (.val (.agg (QDG x)))] [] (.ca (.val (vb (Qdw x)))) []:=by
 obtain ⟨p,u,r⟩:=x
 have c1:=Qdy p 1 15
 have c2:=Qdy r 0 65535
 by_cases h1:1≤p∧p≤15
 ·rw [decide_eq_true h1] at c1
  by_cases h2:0≤r∧r≤65535
  ·rw [decide_eq_true h2] at c2
   rw [show Qdw ⟨p,u,r⟩=true by unfold Qdw;rw [decide_eq_true_eq];dsimp only;omega]
   refine Qaa Tryz.func285 rfl Tryz.ntmps285 Tryz.results285 ⟨by decide,by simp⟩ fun C hC=>?_
   repeat' first | refine sp_ ?_ | exact ex0 | refine Qab Tryz.call282 (c1) [] ex1 ?_ | refine Qab Tryz.call282 (c2) [] ex1 ?_ | exact re0 []
  ·rw [decide_eq_false h2] at c2
   rw [show Qdw ⟨p,u,r⟩=false by unfold Qdw;rw [decide_eq_false_iff_not];dsimp only;omega]
   refine Qaa Tryz.func285 rfl Tryz.ntmps285 Tryz.results285 ⟨by decide,by simp⟩ fun C hC=>?_
   repeat' first | refine sp_ ?_ | exact ex0 | refine Qab Tryz.call282 (c1) [] ex1 ?_ | refine Qab Tryz.call282 (c2) [] ex1 ?_ | exact re0 []
 ·rw [decide_eq_false h1] at c1
  rw [show Qdw ⟨p,u,r⟩=false by unfold Qdw;rw [decide_eq_false_iff_not];dsimp only;omega]
  refine Qaa Tryz.func285 rfl Tryz.ntmps285 Tryz.results285 ⟨by decide,by simp⟩ fun C hC=>?_
  repeat' first | refine sp_ ?_ | exact ex0 | refine Qab Tryz.call282 (c1) [] ex1 ?_ | refine Qab Tryz.call282 (c2) [] ex1 ?_ | exact re0 []
theorem Qxs (x:L11):Qan Tryz.prog 280 [.ca (.val (.agg (QDc x)))] [] (.ca (.val (vb (Qc0 x)))) []:=by
 obtain ⟨p,f,l,h,j,y,a,d⟩:=x
 have c1:=Qdy p 1 15
 have c2:=Qdy f 0 255
 have c3:=Qdy l (-8388608) 8388607
 by_cases h1:1≤p∧p≤15
 ·rw [decide_eq_true h1] at c1
  by_cases h2:0≤f∧f≤255
  ·rw [decide_eq_true h2] at c2
   by_cases h3:-8388608≤l∧l≤8388607
   ·rw [decide_eq_true h3] at c3
    rw [show Qc0 ⟨p,f,l,h,j,y,a,d⟩=true by unfold Qc0;rw [decide_eq_true_eq];dsimp only;omega]
    refine Qaa Tryz.func280 rfl Tryz.ntmps280 Tryz.results280 ⟨by decide,by simp⟩ fun C hC=>?_
    repeat' first | refine sp_ ?_ | exact ex0 | refine Qab Tryz.call282 (c1) [] ex1 ?_ | refine Qab Tryz.call282 (c2) [] ex1 ?_ | refine Qab Tryz.call282 (c3) [] ex1 ?_ | exact re0 []
   ·rw [decide_eq_false h3] at c3
    rw [show Qc0 ⟨p,f,l,h,j,y,a,d⟩=false by unfold Qc0;rw [decide_eq_false_iff_not];dsimp only;omega]
    refine Qaa Tryz.func280 rfl Tryz.ntmps280 Tryz.results280 ⟨by decide,by simp⟩ fun C hC=>?_
    repeat' first | refine sp_ ?_ | exact ex0 | refine Qab Tryz.call282 (c1) [] ex1 ?_ | refine Qab Tryz.call282 (c2) [] ex1 ?_ | refine Qab Tryz.call282 (c3) [] ex1 ?_ | exact re0 []
  ·rw [decide_eq_false h2] at c2
   rw [show Qc0 ⟨p,f,l,h,j,y,a,d⟩=false by unfold Qc0;rw [decide_eq_false_iff_not];dsimp only;omega]
   refine Qaa Tryz.func280 rfl Tryz.ntmps280 Tryz.results280 ⟨by decide,by simp⟩ fun C hC=>?_
   repeat' first | refine sp_ ?_ | exact ex0 | refine Qab Tryz.call282 (c1) [] ex1 ?_ | refine Qab Tryz.call282 (c2) [] ex1 ?_ | refine Qab Tryz.call282 (c3) [] ex1 ?_ | exact re0 []
 ·rw [decide_eq_false h1] at c1
  rw [show Qc0 ⟨p,f,l,h,j,y,a,d⟩=false by unfold Qc0;rw [decide_eq_false_iff_not];dsimp only;omega]
  refine Qaa Tryz.func280 rfl Tryz.ntmps280 Tryz.results280 ⟨by decide,by simp⟩ fun C hC=>?_
  repeat' first | refine sp_ ?_ | exact ex0 | refine Qab Tryz.call282 (c1) [] ex1 ?_ | refine Qab Tryz.call282 (c2) [] ex1 ?_ | refine Qab Tryz.call282 (c3) [] ex1 ?_ | exact re0 []
theorem QuK (x:A11):Qan Tryz.prog 156 [.ca (.val (.agg (QDG x)))] [] (.ca (.val (vi x.path))) []:=by
 refine Qaa Tryz.func156 rfl Tryz.ntmps156 Tryz.results156 ⟨by decide,by simp⟩ fun C hC=>?_
 repeat' first | refine sp_ ?_ | exact ex0 | exact re0 []
theorem QuL (x:L11):Qan Tryz.prog 158 [.ca (.val (.agg (QDc x)))] [] (.ca (.val (vi x.path))) []:=by
 refine Qaa Tryz.func158 rfl Tryz.ntmps158 Tryz.results158 ⟨by decide,by simp⟩ fun C hC=>?_
 repeat' first | refine sp_ ?_ | exact ex0 | exact re0 []
structure L11.Ok (x:L11):Prop where
 hi:0≤x.hi∧x.hi<4294967296
 ji:0≤x.ji∧x.ji<4294967296
 by':0≤x.by'∧x.by'<4294967296
 la:0≤x.la∧x.la<4294967296
 de:0≤x.de∧x.de<4294967296
def A11.Ok (x:A11):Prop:=True
theorem QqZ (x:A11) (hx:x.Ok) (o:List UInt8) (ho:o.length≤1000000):Qan Tryz.prog 286 [.ca (.val (.agg (QDG x))),.ptr 0 0] [QeZ o] (.ca (.val (.tup []))) [QeZ (o++Qjl x)]:=by
 obtain ⟨p,u,r⟩:=x
 obtain ⟨z,hz⟩:∃ z:Int,z=if u=true then 1 else 0:=⟨_,rfl⟩
 have hw:o++Qjl ⟨p,u,r⟩=o++Qah 1 [p,z]++Qah 2 [r]:=by unfold Qjl;dsimp only;rw [←hz,List.append_assoc]
 have c1:=QdS o [p,z] (by simp;omega)
 have c2:=Qfi (o++Qah 1 [p,z]) [r] (by simp [Qai];omega)
 rw [hw]
 cases u with
 | false=>
  obtain rfl:z=0:=hz
  refine Qaa Tryz.func286 rfl Tryz.ntmps286 Tryz.results286 ⟨by decide,by simp⟩ fun C hC=>?_
  repeat' first | refine sp_ ?_ | exact ex0 | refine Qab Tryz.call18 (c1) [(1000,0)] ex1 ?_ | refine Qab Tryz.call19 (c2) [(1000,0)] ex1 ?_ | exact re0 []
 | true=>
  obtain rfl:z=1:=hz
  refine Qaa Tryz.func286 rfl Tryz.ntmps286 Tryz.results286 ⟨by decide,by simp⟩ fun C hC=>?_
  repeat' first | refine sp_ ?_ | exact ex0 | refine Qab Tryz.call18 (c1) [(1000,0)] ex1 ?_ | refine Qab Tryz.call19 (c2) [(1000,0)] ex1 ?_ | exact re0 []
theorem Qq0 (x:L11) (hx:x.Ok) (o:List UInt8) (ho:o.length≤1000000):Qan Tryz.prog 281 [.ca (.val (.agg (QDc x))),.ptr 0 0] [QeZ o] (.ca (.val (.tup []))) [QeZ (o++Qjk x)]:=by
 obtain ⟨p,f,l,h,j,y,a,d⟩:=x
 obtain ⟨q1,q2,q3,q4,q5⟩:=hx
 dsimp only at q1 q2 q3 q4 q5
 have hw:o++Qjk ⟨p,f,l,h,j,y,a,d⟩=o++Qah 1 [p,f]++Qah 2 [0]++Qah 3 [l]++Qah 1 [0]++Qah 4 [h,j,y,a,d]:=by unfold Qjk;simp only [List.append_assoc]
 have c1:=QdS o [p,f] (by simp;omega)
 have c2:=Qfi (o++Qah 1 [p,f]) [0] (by simp [Qai];omega)
 have c3:=Qs9 (o++Qah 1 [p,f]++Qah 2 [0]) [l] (by simp [Qai];omega)
 have c4:=QdS (o++Qah 1 [p,f]++Qah 2 [0]++Qah 3 [l]) [0] (by simp [Qai];omega)
 have c5:=Qca (o++Qah 1 [p,f]++Qah 2 [0]++Qah 3 [l]++Qah 1 [0]) [h,j,y,a,d] (by simp [Qai];omega) (by
  intro n hn
  simp only [List.mem_cons,List.not_mem_nil,or_false] at hn
  rcases hn with rfl | rfl | rfl | rfl | rfl <;> assumption)
 rw [hw]
 refine Qaa Tryz.func281 rfl Tryz.ntmps281 Tryz.results281 ⟨by decide,by simp⟩ fun C hC=>?_
 repeat' first | refine sp_ ?_ | exact ex0 | refine Qab Tryz.call18 (c1) [(1000,0)] ex1 ?_ | refine Qab Tryz.call19 (c2) [(1000,0)] ex1 ?_ | refine Qab Tryz.call148 (c3) [(1000,0)] ex1 ?_ | refine Qab Tryz.call18 (c4) [(1000,0)] ex1 ?_ | refine Qab Tryz.call59 (c5) [(1000,0)] ex1 ?_ | exact re0 []
theorem Qq1 (f src:Int) (hs:0≤src∧src<4294967296) (l:List L11) (ho:∀ x∈l,x.Ok) (hl:l.length≤maxLen) :
  Qan Tryz.prog 157 [.ca (.val (vi f)),.ca (.val (vu src)),.ca (.val (.lst 8 (l.map QiT))),.fn 158 []] [] (.ca (.val (pcV (Qva f Qc0 (fun x=>x.path) Qjk src l)))) []:=by
 have c0:=Qca [] [src] (by simp) (by simpa using hs)
 rw [List.nil_append,QzD] at c0
 obtain ⟨hd,hhd⟩:∃ hd,hd=QaK src 4:=⟨_,rfl⟩
 have hdl:hd.length=4:=by rw [hhd,Qaj]
 obtain ⟨P,hP⟩:∃ P,P=Qva f Qc0 (fun x=>x.path) Qjk src l:=⟨_,rfl⟩
 rw [←hP]
 unfold Qva at hP
 rw [←hhd] at c0 hP
 clear hhd
 refine Qaa Tryz.func157 rfl Tryz.ntmps157 Tryz.results157 ⟨by decide,by simp⟩ fun C hC=>?_
 (repeat' ((fail_if_success (first | refine Qas 2 ?_ | refine Qay 2 ?_));(first | refine sp_ ?_ | exact ex0 | exact re0 [])))
 refine Qb2 (9,0) 0 (9,1) 5 1 ?_
 refine sx_ ?_
 (repeat' ((fail_if_success (refine Qat 5 ?_));(first | refine sp_ ?_ | exact ex0 | refine Qab Tryz.call59 (c0) [(9,0)] ex1 ?_ | exact re0 [])))
 refine QaD (α:={j:Nat // j≤l.length∧Qcq Qc0 (fun x=>x.path) 0 (l.take j)=true}) (fun x=>[(.s 0,.av (.val (vi f))),(.s 3,.av (.fn 158 [])),(.o (8,0),.num 3),(.c (8,0) 0,.av (.val (vi 0))),(.c (8,0) 1,.av (.val (vi 0))),(.c (8,0) 2,.av (.val (vs []))),(.s 8,.av (.ptr (8,0) 0 0)),(.o (9,0),.num 1),(.c (9,0) 0,.av (.own (9,1) 0 5 1 ((hd++(l.take x.1).flatMap Qjk).map QaG))),(.k (9,1),.row 5 1 (hd++(l.take x.1).flatMap Qjk).length),(.s 9,.av (.ptr (9,0) 0 0)),(.s 10,.av (.val (vi (Qnz (fun y:L11=>y.path) 0 (l.take x.1))))),(.s 16,.av (.val (.lst 8 (l.map QiT)))),(.s 17,.av (.val (vi l.length))),(.s 18,.av (.val (vi x.1)))]) (fun x=>l.length-x.1) ⟨0,Nat.zero_le _,by rw [List.take_zero];rfl⟩ ?_ (fun x=>?_)
 ·simp only [List.take_zero,List.flatMap_nil,List.append_nil]
  exact ex0
 ·obtain ⟨j,hj,hr⟩:=x
  dsimp only at hj hr ⊢
  have hfew:=QiR Qc0 (fun x=>x.path) QAv 0 _ (by omega) hr
  rw [List.length_take,Nat.min_eq_left hj] at hfew
  have hal:(hd++(l.take j).flatMap Qjk).length=4+28 * j:=by rw [List.length_append,hdl,Qo0 28 Qjk Qo2,List.length_take,Nat.min_eq_left hj]
  by_cases hlt:j<l.length
  ·have hge:(l.map QiT).getD j []=QiT l[j]:=by simp [hlt]
   have hok:=ho _ (List.getElem_mem hlt)
   have ht:l.take (j+1)=l.take j++[l[j]]:=List.take_succ_eq_append_getElem hlt
   have hrs:=QgS Qc0 (fun x=>x.path) l[j] 0 (l.take j)
   have hls:=QjT (fun y:L11=>y.path) 0 (l.take j) l[j]
   rw [←ht,hr,Bool.true_and] at hrs
   rw [←ht] at hls
   have hnx:(hd++(l.take j).flatMap Qjk)++Qjk l[j]=hd++(l.take (j+1)).flatMap Qjk:=by rw [ht,List.flatMap_append,List.append_assoc];congr 1
   have hbad:Qcq Qc0 (fun x=>x.path) 0 (l.take (j+1))=false→P=(0,0,[]):=fun h=>by
    rw [if_neg (fun h2=>by rw [Qmj Qc0 (fun x=>x.path) 0 l (j+1) h2] at h;cases h)] at hP
    exact hP
   have c1:=Qxs l[j]
   have c2:=QuL l[j]
   have c3:=Qq0 l[j] hok (hd++(l.take j).flatMap Qjk) (by omega)
   rw [hnx] at c3
   have hnl:(hd++(l.take (j+1)).flatMap Qjk).length=4+28 * j+28:=by rw [←hnx,List.length_append,hal,Qo2]
   obtain ⟨B2,hB2⟩:∃ B2,B2=hd++(l.take (j+1)).flatMap Qjk:=⟨_,rfl⟩
   rw [←hB2] at c3 hnx hnl
   generalize hd++(l.take j).flatMap Qjk=B1 at *
   generalize hw:l[j]=w at *
   generalize Qnz (fun y:L11=>y.path) 0 (l.take j)=la at *
   cases hm:Qc0 w with
   | false=>
    rw [hm] at c1 hrs
    obtain rfl:=hbad (by rw [hrs];rfl)
    repeat' first | refine sp_ ?_ | exact ex0 | exact re0 []
    simp only [hw]
    refine Qfd (by kernel_rfl) ?_
    repeat' first | refine sp_ ?_ | exact ex0 | exact re0 []
    refine QlN Tryz.call280 200 (.agg (QiT w)) ⟨_,Tryz.underlying200,fun e h=>by cases h⟩ (by kernel_rfl) c1 [] ex0 ?_
    repeat' first | refine sp_ ?_ | exact ex0 | exact re0 []
   | true=>
    rw [hm,Bool.true_and] at hrs
    rw [hm] at c1
    by_cases hq:la<w.path
    ·rw [decide_eq_true hq] at hrs
     repeat' first | refine sp_ ?_ | exact ex0 | exact re0 []
     simp only [hw]
     refine Qfd (by kernel_rfl) ?_
     repeat' first | refine sp_ ?_ | exact ex0 | exact re0 []
     refine QlN Tryz.call280 200 (.agg (QiT w)) ⟨_,Tryz.underlying200,fun e h=>by cases h⟩ (by kernel_rfl) c1 [] ex0 ?_
     repeat' first | refine sp_ ?_ | exact ex0 | exact re0 []
     refine Qci Tryz.call158 [] c2 ex0 ?_
     repeat' first | refine sp_ ?_ | exact ex0 | exact re0 []
     refine Qci Tryz.call158 [] c2 ex0 ?_
     repeat' first | refine sp_ ?_ | exact ex0 | exact re0 []
     refine Qfd (by kernel_rfl) ?_
     repeat' first | refine sp_ ?_ | exact ex0 | exact re0 []
     refine QlN Tryz.call281 200 (.agg (QiT w)) ⟨_,Tryz.underlying200,fun e h=>by cases h⟩ (by kernel_rfl) c3 [(9,0)] ex0 ?_
     repeat' first | refine sp_ ?_ | exact ex0 | exact re0 []
     refine Qau (α:={j:Nat // j≤l.length∧Qcq Qc0 (fun x=>x.path) 0 (l.take j)=true}) ⟨j+1,hlt,hrs⟩ ⟨?_,?_⟩
     ·(try dsimp only)
      rw [←hB2,hls]
      refine sx_ ?_
      rw [hB2,List.length_append]
     ·(try dsimp only)
      omega
    ·rw [decide_eq_false hq] at hrs
     obtain rfl:=hbad hrs
     repeat' first | refine sp_ ?_ | exact ex0 | exact re0 []
     simp only [hw]
     refine Qfd (by kernel_rfl) ?_
     repeat' first | refine sp_ ?_ | exact ex0 | exact re0 []
     refine QlN Tryz.call280 200 (.agg (QiT w)) ⟨_,Tryz.underlying200,fun e h=>by cases h⟩ (by kernel_rfl) c1 [] ex0 ?_
     repeat' first | refine sp_ ?_ | exact ex0 | exact re0 []
     refine Qci Tryz.call158 [] c2 ex0 ?_
     repeat' first | refine sp_ ?_ | exact ex0 | exact re0 []
  ·obtain rfl:j=l.length:=by omega
   have hr2:=hr
   rw [List.take_length] at hr2
   simp only [List.take_length] at hal ⊢
   rw [if_pos hr2] at hP
   subst hP
   have c4:=Qa3 (hd++l.flatMap Qjk) (by omega)
   repeat' first | refine sp_ ?_ | exact ex0 | refine Qab Tryz.call22 (c4) [(9,0)] ex1 ?_ | exact re0 []
theorem Qq2 (f src:Int) (hs:0≤src∧src<4294967296) (l:List A11) (ho:∀ x∈l,x.Ok) (hl:l.length≤maxLen) :
  Qan Tryz.prog 155 [.ca (.val (vi f)),.ca (.val (vu src)),.ca (.val (.lst 3 (l.map QiU))),.fn 156 []] [] (.ca (.val (pcV (Qva f Qdw (fun x=>x.path) Qjl src l)))) []:=by
 have c0:=Qca [] [src] (by simp) (by simpa using hs)
 rw [List.nil_append,QzD] at c0
 obtain ⟨hd,hhd⟩:∃ hd,hd=QaK src 4:=⟨_,rfl⟩
 have hdl:hd.length=4:=by rw [hhd,Qaj]
 obtain ⟨P,hP⟩:∃ P,P=Qva f Qdw (fun x=>x.path) Qjl src l:=⟨_,rfl⟩
 rw [←hP]
 unfold Qva at hP
 rw [←hhd] at c0 hP
 clear hhd
 refine Qaa Tryz.func155 rfl Tryz.ntmps155 Tryz.results155 ⟨by decide,by simp⟩ fun C hC=>?_
 (repeat' ((fail_if_success (first | refine Qas 2 ?_ | refine Qay 2 ?_));(first | refine sp_ ?_ | exact ex0 | exact re0 [])))
 refine Qb2 (9,0) 0 (9,1) 5 1 ?_
 refine sx_ ?_
 (repeat' ((fail_if_success (refine Qat 5 ?_));(first | refine sp_ ?_ | exact ex0 | refine Qab Tryz.call59 (c0) [(9,0)] ex1 ?_ | exact re0 [])))
 refine QaD (α:={j:Nat // j≤l.length∧Qcq Qdw (fun x=>x.path) 0 (l.take j)=true}) (fun x=>[(.s 0,.av (.val (vi f))),(.s 3,.av (.fn 156 [])),(.o (8,0),.num 3),(.c (8,0) 0,.av (.val (vi 0))),(.c (8,0) 1,.av (.val (vi 0))),(.c (8,0) 2,.av (.val (vs []))),(.s 8,.av (.ptr (8,0) 0 0)),(.o (9,0),.num 1),(.c (9,0) 0,.av (.own (9,1) 0 5 1 ((hd++(l.take x.1).flatMap Qjl).map QaG))),(.k (9,1),.row 5 1 (hd++(l.take x.1).flatMap Qjl).length),(.s 9,.av (.ptr (9,0) 0 0)),(.s 10,.av (.val (vi (Qnz (fun y:A11=>y.path) 0 (l.take x.1))))),(.s 16,.av (.val (.lst 3 (l.map QiU)))),(.s 17,.av (.val (vi l.length))),(.s 18,.av (.val (vi x.1)))]) (fun x=>l.length-x.1) ⟨0,Nat.zero_le _,by rw [List.take_zero];rfl⟩ ?_ (fun x=>?_)
 ·simp only [List.take_zero,List.flatMap_nil,List.append_nil]
  exact ex0
 ·obtain ⟨j,hj,hr⟩:=x
  dsimp only at hj hr ⊢
  have hfew:=QiR Qdw (fun x=>x.path) QAw 0 _ (by omega) hr
  rw [List.length_take,Nat.min_eq_left hj] at hfew
  have hal:(hd++(l.take j).flatMap Qjl).length=4+4 * j:=by rw [List.length_append,hdl,Qo0 4 Qjl Qo3,List.length_take,Nat.min_eq_left hj]
  by_cases hlt:j<l.length
  ·have hge:(l.map QiU).getD j []=QiU l[j]:=by simp [hlt]
   have hok:=ho _ (List.getElem_mem hlt)
   have ht:l.take (j+1)=l.take j++[l[j]]:=List.take_succ_eq_append_getElem hlt
   have hrs:=QgS Qdw (fun x=>x.path) l[j] 0 (l.take j)
   have hls:=QjT (fun y:A11=>y.path) 0 (l.take j) l[j]
   rw [←ht,hr,Bool.true_and] at hrs
   rw [←ht] at hls
   have hnx:(hd++(l.take j).flatMap Qjl)++Qjl l[j]=hd++(l.take (j+1)).flatMap Qjl:=by rw [ht,List.flatMap_append,List.append_assoc];congr 1
   have hbad:Qcq Qdw (fun x=>x.path) 0 (l.take (j+1))=false→P=(0,0,[]):=fun h=>by
    rw [if_neg (fun h2=>by rw [Qmj Qdw (fun x=>x.path) 0 l (j+1) h2] at h;cases h)] at hP
    exact hP
   have c1:=Qxr l[j]
   have c2:=QuK l[j]
   have c3:=QqZ l[j] hok (hd++(l.take j).flatMap Qjl) (by omega)
   rw [hnx] at c3
   have hnl:(hd++(l.take (j+1)).flatMap Qjl).length=4+4 * j+4:=by rw [←hnx,List.length_append,hal,Qo3]
   obtain ⟨B2,hB2⟩:∃ B2,B2=hd++(l.take (j+1)).flatMap Qjl:=⟨_,rfl⟩
   rw [←hB2] at c3 hnx hnl
   generalize hd++(l.take j).flatMap Qjl=B1 at *
   generalize hw:l[j]=w at *
   generalize Qnz (fun y:A11=>y.path) 0 (l.take j)=la at *
   cases hm:Qdw w with
   | false=>
    rw [hm] at c1 hrs
    obtain rfl:=hbad (by rw [hrs];rfl)
    repeat' first | refine sp_ ?_ | exact ex0 | exact re0 []
    simp only [hw]
    refine Qfd (by kernel_rfl) ?_
    repeat' first | refine sp_ ?_ | exact ex0 | exact re0 []
    refine QlN Tryz.call285 270 (.agg (QiU w)) ⟨_,Tryz.underlying270,fun e h=>by cases h⟩ (by kernel_rfl) c1 [] ex0 ?_
    repeat' first | refine sp_ ?_ | exact ex0 | exact re0 []
   | true=>
    rw [hm,Bool.true_and] at hrs
    rw [hm] at c1
    by_cases hq:la<w.path
    ·rw [decide_eq_true hq] at hrs
     repeat' first | refine sp_ ?_ | exact ex0 | exact re0 []
     simp only [hw]
     refine Qfd (by kernel_rfl) ?_
     repeat' first | refine sp_ ?_ | exact ex0 | exact re0 []
     refine QlN Tryz.call285 270 (.agg (QiU w)) ⟨_,Tryz.underlying270,fun e h=>by cases h⟩ (by kernel_rfl) c1 [] ex0 ?_
     repeat' first | refine sp_ ?_ | exact ex0 | exact re0 []
     refine Qci Tryz.call156 [] c2 ex0 ?_
     repeat' first | refine sp_ ?_ | exact ex0 | exact re0 []
     refine Qci Tryz.call156 [] c2 ex0 ?_
     repeat' first | refine sp_ ?_ | exact ex0 | exact re0 []
     refine Qfd (by kernel_rfl) ?_
     repeat' first | refine sp_ ?_ | exact ex0 | exact re0 []
     refine QlN Tryz.call286 270 (.agg (QiU w)) ⟨_,Tryz.underlying270,fun e h=>by cases h⟩ (by kernel_rfl) c3 [(9,0)] ex0 ?_
     repeat' first | refine sp_ ?_ | exact ex0 | exact re0 []
     refine Qau (α:={j:Nat // j≤l.length∧Qcq Qdw (fun x=>x.path) 0 (l.take j)=true}) ⟨j+1,hlt,hrs⟩ ⟨?_,?_⟩
     ·(try dsimp only)
      rw [←hB2,hls]
      refine sx_ ?_
      rw [hB2,List.length_append]
     ·(try dsimp only)
      omega
    ·rw [decide_eq_false hq] at hrs
     obtain rfl:=hbad hrs
     repeat' first | refine sp_ ?_ | exact ex0 | exact re0 []
     simp only [hw]
     refine Qfd (by kernel_rfl) ?_
     repeat' first | refine sp_ ?_ | exact ex0 | exact re0 []
     refine QlN Tryz.call285 270 (.agg (QiU w)) ⟨_,Tryz.underlying270,fun e h=>by cases h⟩ (by kernel_rfl) c1 [] ex0 ?_
     repeat' first | refine sp_ ?_ | exact ex0 | exact re0 []
     refine Qci Tryz.call156 [] c2 ex0 ?_
     repeat' first | refine sp_ ?_ | exact ex0 | exact re0 []
  ·obtain rfl:j=l.length:=by omega
   have hr2:=hr
   rw [List.take_length] at hr2
   simp only [List.take_length] at hal ⊢
   rw [if_pos hr2] at hP
   subst hP
   have c4:=Qa3 (hd++l.flatMap Qjl) (by omega)
   repeat' first | refine sp_ ?_ | exact ex0 | refine Qab Tryz.call22 (c4) [(9,0)] ex1 ?_ | exact re0 []
theorem QuM (r:R11) (hs:0≤r.src∧r.src<4294967296) (ho:∀ x∈r.all,x.Ok) (hl:r.all.length≤maxLen):Qan Tryz.prog 98 [.ca (.val (.agg (Qu8 r)))] [] (.ca (.val (pcV (QiV r)))) []:=by
 obtain ⟨src,l⟩:=r
 dsimp only at hs ho hl
 have c:=Qq1 1 src hs l ho hl
 by_cases h0:l.length=0
 ·rw [show QiV ⟨src,l⟩=(0,0,[]) by unfold QiV;rw [if_pos h0]]
  refine Qaa Tryz.func98 rfl Tryz.ntmps98 Tryz.results98 ⟨by decide,by simp⟩ fun C hC=>?_
  repeat' first | refine sp_ ?_ | exact ex0 | exact re0 []
 ·rw [show QiV ⟨src,l⟩=Qva 1 Qc0 (fun x=>x.path) Qjk src l by unfold QiV;rw [if_neg h0]]
  refine Qaa Tryz.func98 rfl Tryz.ntmps98 Tryz.results98 ⟨by decide,by simp⟩ fun C hC=>?_
  repeat' first | refine sp_ ?_ | exact ex0 | refine Qab Tryz.call157 (c) [] ex1 ?_ | exact re0 []
theorem QAM (r:S11) (hs:0≤r.src∧r.src<4294967296) (hl:r.all.length≤maxLen):Qan Tryz.prog 97 [.ca (.val (.agg (Qu9 r)))] [] (.ca (.val (pcV (QDI r)))) []:=by
 obtain ⟨src,l⟩:=r
 dsimp only at hs hl
 have c:=Qq2 2 src hs l (fun _ _=>trivial) hl
 rw [show QDI ⟨src,l⟩=Qva 2 Qdw (fun x=>x.path) Qjl src l from rfl]
 refine Qaa Tryz.func97 rfl Tryz.ntmps97 Tryz.results97 ⟨by decide,by simp⟩ fun C hC=>?_
 repeat' first | refine sp_ ?_ | exact ex0 | refine Qab Tryz.call155 (c) [] ex1 ?_ | exact re0 []
end Go.Proofs.YthfocmakkeonoaaGreatDoor
