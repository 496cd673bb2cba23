/- Package piece, by abstract values. -/
import Derived.Test.YthfocmakkeonoaaGreatDoorQInz
import Derived.Test.YthfocmakkeonoaaGreatDoorNack2z
import Derived.Test.YthfocmakkeonoaaGreatDoorRtp4z
import Derived.Test.YthfocmakkeonoaaGreatDoorRPz
import Derived.Test.YthfocmakkeonoaaGreatDoorRLz
set_option linter.unusedVariables false
set_option linter.unusedSimpArgs false
set_option maxRecDepth 100000
set_option maxHeartbeats 16000000
namespace Go.Proofs.YthfocmakkeonoaaGreatDoor
open Go.RowKit
abbrev pcV (p:Pc):V:=.agg [vi p.1,vi p.2.1,vs p.2.2]
def Qfo (p:Pc):List V:=[vi p.1,vi p.2.1,vs p.2.2]
attribute [go_sem] Qfo
def QjV (n:Int):Bool:=decide (192≤n∧n≤223)
theorem QqM (n:Int):Qan Tryz.prog 199 [.ca (.val (vi n))] [] (.ca (.val (vb (QjV n)))) []:=by
 refine Qaa Tryz.func199 rfl Tryz.ntmps199 Tryz.results199 ⟨by decide,by simp⟩ fun C hC=>?_
 by_cases h1:192≤n
 ·repeat first | refine sp_ ?_ | exact ex0
  (refine Qap [] ?_;simp (decide:=true) (disch:=omega) only [go_sem,↓reduceIte,↓Qad])
  unfold QjV
  simp [h1]
 ·repeat first | refine sp_ ?_ | exact ex0
  (refine Qap [] ?_;simp (decide:=true) (disch:=omega) only [go_sem,↓reduceIte,↓Qad])
  unfold QjV
  simp [h1]
theorem QnC (p:Pc) (hl:p.2.2.length≤maxLen):Qan Tryz.prog 161 [.ca (.val (pcV p))] [] (.ca (.val (vi (Qge p)))) []:=by
 obtain ⟨c,k,b⟩:=p
 dsimp only at hl ⊢
 have hm:=QhE (c,k,b)
 dsimp only at hm
 unfold maxLen at hl
 have hbad:¬(0≤c∧c≤31∧192≤k∧k≤223∧b.length % 4=0∧b.length≤262140)→Qge (c,k,b)=6:=fun h=>by unfold Qge;rw [if_neg (fun e=>h (hm.1 e))]
 have hgood:(0≤c∧c≤31∧192≤k∧k≤223∧b.length % 4=0∧b.length≤262140)→Qge (c,k,b)=0:=fun h=>by unfold Qge;rw [if_pos (hm.2 h)]
 refine Qaa Tryz.func161 rfl Tryz.ntmps161 Tryz.results161 ⟨by decide,by simp⟩ fun C hC=>?_
 by_cases h1:c<0
 ·repeat first | refine sp_ ?_ | exact ex0
  (refine Qap [] ?_;simp (decide:=true) (disch:=omega) only [go_sem,↓reduceIte,↓Qad])
  exact (hbad (by omega)).symm
 by_cases h2:31<c
 ·repeat first | refine sp_ ?_ | exact ex0
  (refine Qap [] ?_;simp (decide:=true) (disch:=omega) only [go_sem,↓reduceIte,↓Qad])
  exact (hbad (by omega)).symm
 repeat first | refine sp_ ?_ | exact ex0
 refine Qbt Tryz.call199 (QqM k) [] ?_
 rcases h3:QjV k with _ | _
 ·have h4:¬(192≤k∧k≤223):=by simpa [QjV] using h3
  repeat first | refine sp_ ?_ | exact ex0
  (refine Qap [] ?_;simp (decide:=true) (disch:=omega) only [go_sem,↓reduceIte,↓Qad])
  exact (hbad (by omega)).symm
 have h4:192≤k∧k≤223:=by simpa [QjV] using h3
 by_cases h5:(b.length:Int) % 4=0
 ·by_cases h6:262140<(b.length:Int)
  ·repeat first | refine sp_ ?_ | exact ex0
   (refine Qap [] ?_;simp (decide:=true) (disch:=omega) only [go_sem,↓reduceIte,↓Qad])
   exact (hbad (by omega)).symm
  ·repeat first | refine sp_ ?_ | exact ex0
   (refine Qap [] ?_;simp (decide:=true) (disch:=omega) only [go_sem,↓reduceIte,↓Qad])
   exact (hgood (by omega)).symm
 ·repeat first | refine sp_ ?_ | exact ex0
  (refine Qap [] ?_;simp (decide:=true) (disch:=omega) only [go_sem,↓reduceIte,↓Qad])
  exact (hbad (by omega)).symm
theorem Qxf (ps:List Pc) (h:ps.all Qq6=true):(ps.flatMap QbA).length≤262144 * ps.length:=by
 induction ps with
 | nil=>simp
 | cons p ps ih=>
  simp only [List.all_cons,Bool.and_eq_true] at h
  have h1:=((QhE p).1 h.1).2.2.2.2.2
  have:=ih h.2
  simp only [List.flatMap_cons,List.length_append,Qdj,List.length_cons]
  omega
theorem QeM (ps:List Pc) (hl:∀ p∈ps,p.2.2.length≤maxLen) (hs:ps.length≤100000000):Qan Tryz.prog 100 [.ca (.val (.lst 3 (ps.map Qfo)))] [] (.ca (.val (vs (Qcc ps)))) []:=by
 refine Qaa Tryz.func100 rfl Tryz.ntmps100 Tryz.results100 ⟨by decide,by simp⟩ fun C hC=>?_
 repeat first | refine sp_ ?_ | exact ex0
 refine Qb2 (3,0) 0 (3,1) 5 1 ?_
 refine sx_ ?_
 refine QaD (α:={j:Nat // j≤ps.length∧(ps.take j).all Qq6=true}) (fun j=>[(.s 3,.av (.ptr (3,0) 0 0)),(.s 6,.av (.val (.lst 3 (ps.map Qfo)))),(.s 7,.av (.val (vi ps.length))),(.s 8,.av (.val (vi j.1))),(.o (3,0),.num 1),(.c (3,0) 0,.av (.own (3,1) 0 5 1 (((ps.take j.1).flatMap QbA).map QaG))),(.k (3,1),.row 5 1 (((ps.take j.1).flatMap QbA).map QaG).length)]) (fun j=>ps.length-j.1) ⟨0,Nat.zero_le _,rfl⟩ ?_ (fun j=>?_)
 ·simp only [List.take_zero,List.flatMap_nil]
  exact ex0
 ·obtain ⟨j,hj,ha⟩:=j
  dsimp only at hj ⊢
  have hb:=Qxf _ ha
  rw [List.length_take,Nat.min_eq_left hj] at hb
  by_cases hlt:j<ps.length
  ·have ht:ps.take (j+1)=ps.take j++[ps[j]]:=List.take_succ_eq_append_getElem hlt
   have hc:=QnC ps[j] (hl _ (List.getElem_mem hlt))
   cases hm:Qq6 ps[j] with
   | false=>
    have hk:Qge ps[j]=6:=by unfold Qge;rw [hm];rfl
    rw [hk] at hc
    have hp:Qcc ps=[]:=by
     unfold Qcc
     rw [if_neg]
     intro h
     have:=List.all_eq_true.1 h _ (List.getElem_mem hlt)
     rw [hm] at this
     cases this
    rw [hp]
    repeat first | refine sp_ ?_ | exact ex0
    refine Qac Tryz.call161 hc [] ?_
    repeat first | refine sp_ ?_ | exact ex0
    exact re0 []
   | true=>
    have hk:Qge ps[j]=0:=by unfold Qge;rw [hm];rfl
    rw [hk] at hc
    obtain ⟨m1,m2,m3,m4,m5,m6⟩:=(QhE _).1 hm
    have hor:bits .or .i64 128 ps[j].1=128+ps[j].1:=Qhp 5 _ _ (by omega) (by omega) (by omega) (by omega) (by omega) (by omega)
    repeat first | refine sp_ ?_ | exact ex0
    refine Qac Tryz.call161 hc [] ?_
    repeat first | refine sp_ ?_ | exact ex0
    refine Qac Tryz.call18 (QdS ((ps.take j).flatMap QbA) [128+ps[j].1,ps[j].2.1] (by simp only [List.length_cons,List.length_nil];omega)) [(3,0)] ?_
    repeat first | refine sp_ ?_ | exact ex0
    refine ⟨by rw [hor],?_⟩
    repeat first | refine sp_ ?_ | exact ex0
    have hq:=Qai 1 [128+ps[j].1,ps[j].2.1]
    simp only [List.length_cons,List.length_nil] at hq
    refine Qac Tryz.call19 (Qfi ((ps.take j).flatMap QbA++Qah 1 [128+ps[j].1,ps[j].2.1]) [(ps[j].2.2.length:Int) / 4] (by simp only [List.length_append,List.length_cons,List.length_nil];omega)) [(3,0)] ?_
    repeat first | refine sp_ ?_ | exact ex0
    have hq2:=Qai 2 [(ps[j].2.2.length:Int) / 4]
    simp only [List.length_cons,List.length_nil] at hq2
    refine Qac Tryz.call60 (Qei ((ps.take j).flatMap QbA++Qah 1 [128+ps[j].1,ps[j].2.1]++Qah 2 [(ps[j].2.2.length:Int) / 4]) [ps[j].2.2] (by simp only [List.length_append,List.flatten_cons,List.flatten_nil,List.append_nil];omega) (by simp)) [(3,0)] ?_
    repeat first | refine sp_ ?_ | exact ex0
    refine Qau ⟨j+1,hlt,by rw [ht,List.all_append,ha];simp [hm]⟩ ⟨?_,by dsimp only;omega⟩
    have e1:(ps.take (j+1)).flatMap QbA=(ps.take j).flatMap QbA++Qah 1 [128+ps[j].1,ps[j].2.1]++Qah 2 [(ps[j].2.2.length:Int) / 4]++[ps[j].2.2].flatten:=by
     rw [ht,List.flatMap_append]
     simp [Qah,QbA,Int.natCast_ediv]
    dsimp only
    rw [e1]
    exact ex0
  ·repeat first | refine sp_ ?_ | exact ex0
   refine Qac Tryz.call22 (Qa3 ((ps.take j).flatMap QbA) (by omega)) [(3,0)] ?_
   repeat first | refine sp_ ?_ | exact ex0
   (refine Qap [] ?_;simp (decide:=true) (disch:=omega) only [go_sem,↓reduceIte,↓Qad])
   have e:ps.take j=ps:=List.take_of_length_le (by omega)
   rw [e] at ha ⊢
   unfold Qcc
   rw [if_pos ha]
end Go.Proofs.YthfocmakkeonoaaGreatDoor
namespace Go.Proofs.YthfocmakkeonoaaGreatDoor
open Go.RowKit
theorem Qyl (T:Nat) (l:List UInt8):(goX T l).1.length=l.length-T:=by
 unfold goX
 split
 ·simp
 ·simp;omega
theorem Qxg (T:Nat) (l:List UInt8) (h:l.length≤maxLen):(goX T l).1.length≤maxLen:=by rw [Qyl];omega
theorem gx8 (s:List UInt8) (T:Nat) (h:s.length≤maxLen):Qan Tryz.prog 122 [.ptr 0 0] [inO (goX T s).1 (goX T s).2] (.ca (.val (vi (vl 1 (goX T s))))) [inO (goX (T+1) s).1 (goX (T+1) s).2]:=by
 have:=rd8 (goX T s) (Qxg T s h)
 rwa [QiB 1 T s (by decide)] at this
theorem QDJ (s:List UInt8) (T:Nat) (h:s.length≤maxLen):Qan Tryz.prog 123 [.ptr 0 0] [inO (goX T s).1 (goX T s).2] (.ca (.val (vi (vl 2 (goX T s))))) [inO (goX (T+2) s).1 (goX (T+2) s).2]:=by
 have:=Qs5 (goX T s).1 (goX T s).2 (Qxg T s h)
 have e:=QiB 2 T s (by decide)
 unfold nx at e
 rw [←e]
 exact this
theorem QGo (s:List UInt8) (T:Nat) (h:s.length≤maxLen):Qan Tryz.prog 252 [.ptr 0 0] [inO (goX T s).1 (goX T s).2] (.ca (.val (vi (vl 3 (goX T s))))) [inO (goX (T+3) s).1 (goX (T+3) s).2]:=by
 have:=QFu (goX T s) (Qxg T s h)
 rwa [QiB 3 T s (by decide)] at this
theorem Qxh (s:List UInt8) (T:Nat) (h:s.length≤maxLen):Qan Tryz.prog 124 [.ptr 0 0] [inO (goX T s).1 (goX T s).2] (.ca (.val (vu (vl 4 (goX T s))))) [inO (goX (T+4) s).1 (goX (T+4) s).2]:=by
 have:=Qmy (goX T s) (Qxg T s h)
 rwa [QiB 4 T s (by decide)] at this
theorem QnD (s:List UInt8) (T:Nat):Qan Tryz.prog 126 [.ptr 0 0] [inO (goX T s).1 (goX T s).2] (.ca (.val (vi ((s.length-T:Nat):Int)))) [inO (goX T s).1 (goX T s).2]:=by
 have:=Qcz (goX T s).1 (goX T s).2
 rwa [Qyl] at this
theorem QAz (s:List UInt8):Qan Tryz.prog 121 [.ca (.val (vs s))] [] (.ptr 0 0) [inO (goX 0 s).1 (goX 0 s).2]:=by
 have:=Qe0 s
 rwa [show inO s 0=inO (goX 0 s).1 (goX 0 s).2 by rw [←QeF]] at this
structure N10.Ok (n:N10):Prop where
 fr:0≤n.fr∧n.fr<4294967296
 ab:0≤n.ab∧n.ab<4294967296
 ps:∀ x∈n.ps,(0≤x.pid∧x.pid<65536)∧0≤x.blp∧x.blp<65536
theorem QqN (n:N10) (hn:n.Ok) (hl:n.ps.length≤maxLen):Qan Tryz.prog 104 [.ca (.val (.agg (Qut n)))] [] (.ca (.val (pcV (QqG n)))) []:=by
 obtain ⟨fr,ab,ps⟩:=n
 obtain ⟨hfr,hab,hps⟩:=hn
 dsimp only at hfr hab hps hl
 obtain ⟨P,hP⟩:∃ P,P=QqG ⟨fr,ab,ps⟩:=⟨_,rfl⟩
 rw [←hP]
 unfold QqG at hP
 dsimp only at hP
 by_cases h0:ps.length=0
 ·rw [if_pos (.inl h0)] at hP
  subst hP
  refine Qaa Tryz.func104 rfl Tryz.ntmps104 Tryz.results104 ⟨by decide,by simp⟩ fun C hC=>?_
  repeat' first | refine sp_ ?_ | exact ex0 | exact re0 []
 by_cases h3:300<ps.length
 ·rw [if_pos (.inr h3)] at hP
  subst hP
  refine Qaa Tryz.func104 rfl Tryz.ntmps104 Tryz.results104 ⟨by decide,by simp⟩ fun C hC=>?_
  repeat' first | refine sp_ ?_ | exact ex0 | exact re0 []
 rw [if_neg (by omega)] at hP
 have c1:=Qca [] [fr,ab] (by simp) (by simpa using ⟨hfr,hab⟩)
 rw [List.nil_append] at c1
 obtain ⟨hd,hhd⟩:∃ hd,hd=Qah 4 [fr,ab]:=⟨_,rfl⟩
 have hdl:hd.length=8:=by rw [hhd];simp [Qai]
 rw [←hhd] at c1 hP
 clear hhd
 subst hP
 refine Qaa Tryz.func104 rfl Tryz.ntmps104 Tryz.results104 ⟨by decide,by simp⟩ fun C hC=>?_
 (repeat' ((fail_if_success (first | refine Qas 4 ?_ | refine Qay 4 ?_));(first | refine sp_ ?_ | exact ex0 | exact re0 [])))
 refine Qb2 (3,0) 0 (3,1) 5 1 ?_
 refine sx_ ?_
 (repeat' ((fail_if_success (refine Qat 6 ?_));(first | refine sp_ ?_ | exact ex0 | refine Qab Tryz.call59 (c1) [(3,0)] ex1 ?_ | exact re0 [])))
 refine QaD (α:={j:Nat // j≤ps.length}) (fun j=>[(.o (2,0),.num 3),(.c (2,0) 0,.av (.val (vi 0))),(.c (2,0) 1,.av (.val (vi 0))),(.c (2,0) 2,.av (.val (vs []))),(.s 2,.av (.ptr (2,0) 0 0)),(.s 3,.av (.ptr (3,0) 0 0)),(.o (3,0),.num 1),(.c (3,0) 0,.av (.own (3,1) 0 5 1 ((hd++(ps.take j.1).flatMap Qq7).map QaG))),(.k (3,1),.row 5 1 (hd++(ps.take j.1).flatMap Qq7).length),(.s 24,.av (.val (.lst 2 (ps.map QiS)))),(.s 25,.av (.val (vi ps.length))),(.s 26,.av (.val (vi j.1)))]) (fun j=>ps.length-j.1) ⟨0,Nat.zero_le _⟩ ?_ (fun j=>?_)
 ·simp only [List.take_zero,List.flatMap_nil,List.append_nil]
  exact ex0
 ·obtain ⟨j,hj⟩:=j
  dsimp only at hj ⊢
  have hw:((ps.take j).flatMap Qq7).length=4 * j:=by rw [Qo0 4 Qq7 Qo1,List.length_take,Nat.min_eq_left hj]
  by_cases hlt:j<ps.length
  ·have ht:ps.take (j+1)=ps.take j++[ps[j]]:=List.take_succ_eq_append_getElem hlt
   have hge:(ps.map QiS).getD j []=QiS ps[j]:=by simp [hlt]
   obtain ⟨⟨q1,q2⟩,q3,q4⟩:=hps _ (List.getElem_mem hlt)
   have c2:=Qfi (hd++(ps.take j).flatMap Qq7) [ps[j].pid,ps[j].blp] (by rw [List.length_append,hw];simp only [List.length_cons,List.length_nil];omega)
   have hnx:(hd++(ps.take j).flatMap Qq7)++Qah 2 [ps[j].pid,ps[j].blp]=hd++(ps.take (j+1)).flatMap Qq7:=by rw [ht,List.flatMap_append,List.append_assoc];congr 1
   rw [hnx] at c2
   repeat' first | refine sp_ ?_ | exact ex0 | refine Qab Tryz.call19 (c2) [(3,0)] ex1 ?_ | exact re0 []
   refine Qau (α:={j:Nat // j≤ps.length}) ⟨j+1,hlt⟩ ⟨?_,by (try dsimp only);omega⟩
   exact ex0
  ·have e:ps.take j=ps:=List.take_of_length_le (by omega)
   rw [e] at hw ⊢
   have c3:=Qa3 (hd++ps.flatMap Qq7) (by rw [List.length_append];omega)
   repeat' first | refine sp_ ?_ | exact ex0 | refine Qab Tryz.call22 (c3) [(3,0)] ex1 ?_ | exact re0 []
theorem QAA (p:Pc) (hp:p.2.2.length≤maxLen):Qan Tryz.prog 229 [.ca (.val (pcV p))] [] (.ca (.val (.tup [.agg (Qut (QgT p)),vi (Qep p)]))) []:=by
 obtain ⟨c,k,b⟩:=p
 dsimp only at hp
 obtain ⟨E,hE⟩:∃ E,E=Qep (c,k,b):=⟨_,rfl⟩
 obtain ⟨R,hR⟩:∃ R,R=QgT (c,k,b):=⟨_,rfl⟩
 rw [←hE,←hR]
 unfold QgT at hR
 rw [←hE] at hR
 unfold Qep at hE
 dsimp only at hE hR
 by_cases hk:k=205
 ·by_cases hc:c=1
  ·rw [if_neg (by omega)] at hE
   by_cases h1:b.length<12
   ·rw [if_pos h1] at hE
    subst hE
    rw [if_neg (by decide)] at hR
    subst hR
    refine Qaa Tryz.func229 rfl Tryz.ntmps229 Tryz.results229 ⟨by decide,by simp⟩ fun C hC=>?_
    repeat' first | refine sp_ ?_ | exact ex0 | exact re0 []
   rw [if_neg h1] at hE
   by_cases h2:b.length % 4≠0
   ·rw [if_pos (.inl h2)] at hE
    subst hE
    rw [if_neg (by decide)] at hR
    subst hR
    have h3:¬(b.length:Int) % 4=0:=by omega
    refine Qaa Tryz.func229 rfl Tryz.ntmps229 Tryz.results229 ⟨by decide,by simp⟩ fun C hC=>?_
    repeat' first | refine sp_ ?_ | exact ex0 | exact re0 []
   have h2':(b.length:Int) % 4=0:=by omega
   by_cases h3:1208<b.length
   ·rw [if_pos (.inr h3)] at hE
    subst hE
    rw [if_neg (by decide)] at hR
    subst hR
    refine Qaa Tryz.func229 rfl Tryz.ntmps229 Tryz.results229 ⟨by decide,by simp⟩ fun C hC=>?_
    repeat' first | refine sp_ ?_ | exact ex0 | exact re0 []
   rw [if_neg (by omega)] at hE
   subst hE
   rw [if_pos rfl] at hR
   subst hR
   obtain ⟨N,hN⟩:∃ N,N=(b.length-8) / 4:=⟨_,rfl⟩
   have hlen:b.length=8+4 * N:=by omega
   have c0:=QAz b
   have c1:=Qxh b 0 hp
   have c2:=Qxh b 4 hp
   rw [Qdr 4 0 b (by omega),List.drop_zero] at c1
   rw [Qdr 4 4 b (by omega)] at c2
   rw [←hN]
   clear hN
   subst hk hc
   generalize hfr:QaP (b.take 4)=fr at *
   generalize hab:QaP ((b.drop 4).take 4)=ab at *
   refine Qaa Tryz.func229 rfl Tryz.ntmps229 Tryz.results229 ⟨by decide,by simp⟩ fun C hC=>?_
   (repeat' ((fail_if_success (refine Qat 10 ?_));(first | refine sp_ ?_ | exact ex0 | refine Qab Tryz.call121 (c0) [] ex1 ?_ | refine Qab Tryz.call124 (c1) [(35,0)] ex1 ?_ | refine Qab Tryz.call124 (c2) [(35,0)] ex1 ?_ | exact re0 [])))
   refine Qb2 (6,0) 2 (6,3) 287 2 ?_
   refine sx_ ?_
   refine QaD (α:={j:Nat // j≤N}) (fun j=>[(.o (2,0),.num 3),(.c (2,0) 0,.av (.val (vu 0))),(.c (2,0) 1,.av (.val (vu 0))),(.c (2,0) 2,.av (.val (.sc (.slice none 0 0)))),(.s 2,.av (.ptr (2,0) 0 0)),(.s 3,.av (.val (vi 0))),(.s 5,.av (.ptr (35,0) 0 0)),(.o (35,0),.num 2),(.c (35,0) 0,.av (.val (vs (goX (8+4 * j.1) b).1))),(.c (35,0) 1,.av (.val (vi (goX (8+4 * j.1) b).2))),(.o (6,0),.num 3),(.c (6,0) 0,.av (.val (vu fr))),(.c (6,0) 1,.av (.val (vu ab))),(.c (6,0) 2,.av (.own (6,3) 0 287 2 ((prs j.1 8 b).map QiS))),(.k (6,3),.row 287 2 (prs j.1 8 b).length),(.s 6,.av (.ptr (6,0) 0 0))]) (fun j=>N-j.1) ⟨0,Nat.zero_le _⟩ ?_ (fun j=>?_)
   ·(try dsimp only)
    rw [show prs 0 8 b=[] from rfl]
    exact ex0
   ·obtain ⟨j,hj⟩:=j
    dsimp only at hj ⊢
    have c3:=QnD b (8+4 * j)
    have hpl:=QAu j 8 b
    by_cases hlt:j<N
    ·have c4:=QDJ b (8+4 * j) hp
     have c5:=QDJ b (8+4 * j+2) hp
     rw [Qdr 2 _ b (by omega)] at c4 c5
     have v1:=Qb9 ((b.drop (8+4 * j)).take 2)
     have v2:=Qb9 ((b.drop (8+4 * j+2)).take 2)
     rw [List.length_take,List.length_drop,Nat.min_eq_left (by omega)] at v1 v2
     have hs:=Qxb j 8 b
     have e4:8+4 * j+2+2=8+4 * (j+1):=by omega
     rw [e4] at c5
     generalize QaP ((b.drop (8+4 * j)).take 2)=a1 at *
     generalize QaP ((b.drop (8+4 * j+2)).take 2)=a2 at *
     have hleft:(0:Int)<((b.length-(8+4 * j):Nat):Int):=by omega
     repeat' first | refine sp_ ?_ | exact ex0 | refine Qab Tryz.call126 (c3) [(35,0)] ex1 ?_ | refine Qab Tryz.call123 (c4) [(35,0)] ex1 ?_ | refine Qab Tryz.call123 (c5) [(35,0)] ex1 ?_ | exact re0 []
     refine Qau (α:={j:Nat // j≤N}) ⟨j+1,hlt⟩ ⟨?_,by (try dsimp only);omega⟩
     (try dsimp only)
     rw [hs]
     refine sx_ ?_
     rw [List.map_append]
     rfl
    ·obtain rfl:j=N:=by omega
     have hleft:¬(0:Int)<((b.length-(8+4 * j):Nat):Int):=by omega
     repeat' first | refine sp_ ?_ | exact ex0 | refine Qab Tryz.call126 (c3) [(35,0)] ex1 ?_ | exact re0 []
  ·rw [if_pos (.inr hc)] at hE
   subst hE
   rw [if_neg (by decide)] at hR
   subst hR
   refine Qaa Tryz.func229 rfl Tryz.ntmps229 Tryz.results229 ⟨by decide,by simp⟩ fun C hC=>?_
   repeat' first | refine sp_ ?_ | exact ex0 | exact re0 []
 ·rw [if_pos (.inl hk)] at hE
  subst hE
  rw [if_neg (by decide)] at hR
  subst hR
  refine Qaa Tryz.func229 rfl Tryz.ntmps229 Tryz.results229 ⟨by decide,by simp⟩ fun C hC=>?_
  repeat' first | refine sp_ ?_ | exact ex0 | exact re0 []
end Go.Proofs.YthfocmakkeonoaaGreatDoor
namespace Go.Proofs.YthfocmakkeonoaaGreatDoor
open Go.RowKit
structure B8 where
 src:Int
 fr:Int
 lost:Int
 hi:Int
 ji:Int
 la:Int
 de:Int
 deriving DecidableEq
abbrev b8L (b:B8):List V:=[vu b.src,vi b.fr,vi b.lost,vu b.hi,vu b.ji,vu b.la,vu b.de]
def Qvb (b:B8):List V:=b8L b
attribute [go_sem] Qvb
structure B8.Ok (b:B8):Prop where
 src:0≤b.src∧b.src<4294967296
 hi:0≤b.hi∧b.hi<4294967296
 ji:0≤b.ji∧b.ji<4294967296
 la:0≤b.la∧b.la<4294967296
 de:0≤b.de∧b.de<4294967296
def QqO (b:B8):Bool:=decide (0≤b.fr∧b.fr≤255∧-8388608≤b.lost∧b.lost<8388608)
def wrB (b:B8):List UInt8:=Qah 4 [b.src]++Qah 1 [b.fr]++Qah 3 [b.lost]++Qah 4 [b.hi,b.ji,b.la,b.de]
theorem QiX (b:B8):Qan Tryz.prog 147 [.ca (.val (.agg (b8L b)))] [] (.ca (.val (vb (QqO b)))) []:=by
 obtain ⟨s,f,l,h,j,a,d⟩:=b
 unfold QqO
 dsimp only
 refine Qaa Tryz.func147 rfl Tryz.ntmps147 Tryz.results147 ⟨by decide,by simp⟩ fun C hC=>?_
 by_cases h1:f<0
 ·repeat first | refine sp_ ?_ | exact ex0
  (refine Qap [] ?_;simp (decide:=true) (disch:=omega) only [go_sem,↓reduceIte,↓Qad])
  try (simp;omega)
 by_cases h2:255<f
 ·repeat first | refine sp_ ?_ | exact ex0
  (refine Qap [] ?_;simp (decide:=true) (disch:=omega) only [go_sem,↓reduceIte,↓Qad])
  try (simp;omega)
 by_cases h3:l < -8388608
 ·repeat first | refine sp_ ?_ | exact ex0
  (refine Qap [] ?_;simp (decide:=true) (disch:=omega) only [go_sem,↓reduceIte,↓Qad])
  try (simp;omega)
 by_cases h4:l<8388608
 ·repeat first | refine sp_ ?_ | exact ex0
  (refine Qap [] ?_;simp (decide:=true) (disch:=omega) only [go_sem,↓reduceIte,↓Qad])
  try (simp;omega)
 ·repeat first | refine sp_ ?_ | exact ex0
  (refine Qap [] ?_;simp (decide:=true) (disch:=omega) only [go_sem,↓reduceIte,↓Qad])
  try (simp;omega)
theorem QkQ (n:Int) (hn:0≤n∧n<16777216):Qan Tryz.prog 251 [.ca (.val (vi n))] [] (.ca (.val (vi (if 8388608≤n then n-16777216 else n)))) []:=by
 refine Qaa Tryz.func251 rfl Tryz.ntmps251 Tryz.results251 ⟨by decide,by simp⟩ fun C hC=>?_
 by_cases h1:8388608≤n
 ·rw [if_pos h1]
  repeat first | refine sp_ ?_ | exact ex0
  exact re0 []
 ·rw [if_neg h1]
  repeat first | refine sp_ ?_ | exact ex0
  exact re0 []
theorem Qhc (b:B8) (hb:b.Ok) (l:List UInt8) (hl:l.length+100≤140737488355328):Qan Tryz.prog 89 [.ca (.val (.agg (b8L b))),.ptr 0 0] [QeZ l] (.ca (.val (.tup []))) [QeZ (l++wrB b)]:=by
 obtain ⟨s,f,lo,h,j,a,d⟩:=b
 obtain ⟨b1,b2,b3,b4,b5⟩:=hb
 dsimp only at *
 have p1:=Qai 4 [s]
 have p2:=Qai 1 [f]
 have p3:=Qai 3 [lo]
 simp only [List.length_cons,List.length_nil] at p1 p2 p3
 have c1:=Qca l [s] (by simp only [List.length_cons,List.length_nil];omega) (by simpa using b1)
 have c2:=QdS (l++Qah 4 [s]) [f] (by simp only [List.length_cons,List.length_nil,List.length_append];omega)
 have c3:=Qs9 (l++Qah 4 [s]++Qah 1 [f]) [lo] (by simp only [List.length_cons,List.length_nil,List.length_append];omega)
 have c4:=Qca (l++Qah 4 [s]++Qah 1 [f]++Qah 3 [lo]) [h,j,a,d] (by simp only [List.length_cons,List.length_nil,List.length_append];omega) (by simpa using ⟨b2,b3,b4,b5⟩)
 refine Qaa Tryz.func89 rfl Tryz.ntmps89 Tryz.results89 ⟨by decide,by simp⟩ fun C hC=>?_
 repeat first | refine sp_ ?_ | exact ex0
 refine Qac Tryz.call59 c1 [(1000,0)] ?_
 repeat first | refine sp_ ?_ | exact ex0
 refine Qac Tryz.call18 c2 [(1000,0)] ?_
 repeat first | refine sp_ ?_ | exact ex0
 refine Qac Tryz.call148 c3 [(1000,0)] ?_
 repeat first | refine sp_ ?_ | exact ex0
 refine Qac Tryz.call59 c4 [(1000,0)] ?_
 repeat first | refine sp_ ?_ | exact ex0
 (refine Qap [] ?_;simp (decide:=true) (disch:=omega) only [go_sem,↓reduceIte,↓Qad])
 try simp [wrB]
def sg (n:Int):Int:=if 8388608≤n then n-16777216 else n
def rdB (x:List UInt8 × Int):B8:=
 ⟨vl 4 x,vl 1 (nx 4 x),sg (vl 3 (nx 1 (nx 4 x))),vl 4 (nx 3 (nx 1 (nx 4 x))),vl 4 (nx 4 (nx 3 (nx 1 (nx 4 x)))),vl 4 (nx 4 (nx 4 (nx 3 (nx 1 (nx 4 x))))),vl 4 (nx 4 (nx 4 (nx 4 (nx 3 (nx 1 (nx 4 x))))))⟩
def nxB (x:List UInt8 × Int):List UInt8 × Int:=nx 4 (nx 4 (nx 4 (nx 4 (nx 3 (nx 1 (nx 4 x))))))
theorem Qmo (x:List UInt8 × Int) (hl:x.1.length≤maxLen):Qan Tryz.prog 241 [.ptr 0 0] [inO x.1 x.2] (.ca (.val (.agg (b8L (rdB x))))) [inO (nxB x).1 (nxB x).2]:=by
 unfold rdB nxB
 have r1:=Qmy x hl
 have l1:=Nat.le_trans (QaM 4 x) hl
 generalize nx 4 x=x1 at *
 have r2:=rd8 x1 l1
 have l2:=Nat.le_trans (QaM 1 x1) l1
 generalize nx 1 x1=x2 at *
 have r3:=QFu x2 l2
 have l3:=Nat.le_trans (QaM 3 x2) l2
 have s3:=QkQ (vl 3 x2) (Qhl 3 16777216 x2 (by decide))
 generalize nx 3 x2=x3 at *
 have r4:=Qmy x3 l3
 have l4:=Nat.le_trans (QaM 4 x3) l3
 generalize nx 4 x3=x4 at *
 have r5:=Qmy x4 l4
 have l5:=Nat.le_trans (QaM 4 x4) l4
 generalize nx 4 x4=x5 at *
 have r6:=Qmy x5 l5
 have l6:=Nat.le_trans (QaM 4 x5) l5
 generalize nx 4 x5=x6 at *
 have r7:=Qmy x6 l6
 generalize nx 4 x6=x7 at *
 refine Qaa Tryz.func241 rfl Tryz.ntmps241 Tryz.results241 ⟨by decide,by simp⟩ fun C hC=>?_
 repeat first | refine sp_ ?_ | exact ex0
 refine Qac Tryz.call124 r1 [(1000,0)] ?_
 repeat first | refine sp_ ?_ | exact ex0
 refine Qac Tryz.call122 r2 [(1000,0)] ?_
 repeat first | refine sp_ ?_ | exact ex0
 refine Qac Tryz.call252 r3 [(1000,0)] ?_
 repeat first | refine sp_ ?_ | exact ex0
 refine Qac Tryz.call251 s3 [] ?_
 repeat first | refine sp_ ?_ | exact ex0
 refine Qac Tryz.call124 r4 [(1000,0)] ?_
 repeat first | refine sp_ ?_ | exact ex0
 refine Qac Tryz.call124 r5 [(1000,0)] ?_
 repeat first | refine sp_ ?_ | exact ex0
 refine Qac Tryz.call124 r6 [(1000,0)] ?_
 repeat first | refine sp_ ?_ | exact ex0
 refine Qac Tryz.call124 r7 [(1000,0)] ?_
 repeat first | refine sp_ ?_ | exact ex0
 (refine Qap [] ?_;simp (decide:=true) (disch:=omega) only [go_sem,↓reduceIte,↓Qad])
 rfl
structure S8 where
 clock:Int
 time:Int
 packets:Int
 bytes:Int
 deriving DecidableEq
abbrev s8L (s:S8):List V:=[vi s.clock,vu s.time,vu s.packets,vu s.bytes]
structure S8.Ok (s:S8):Prop where
 time:0≤s.time∧s.time<4294967296
 packets:0≤s.packets∧s.packets<4294967296
 bytes:0≤s.bytes∧s.bytes<4294967296
def isS (s:S8):Bool:=decide (0≤s.clock∧s.clock≤1099511627776)
theorem Quw (s:S8):Qan Tryz.prog 146 [.ca (.val (.agg (s8L s)))] [] (.ca (.val (vb (isS s)))) []:=by
 obtain ⟨c,t,p,b⟩:=s
 unfold isS
 dsimp only
 refine Qaa Tryz.func146 rfl Tryz.ntmps146 Tryz.results146 ⟨by decide,by simp⟩ fun C hC=>?_
 by_cases h1:c<0
 ·repeat first | refine sp_ ?_ | exact ex0
  (refine Qap [] ?_;simp (decide:=true) (disch:=omega) only [go_sem,↓reduceIte,↓Qad])
  try (simp;omega)
 by_cases h2:c≤1099511627776
 ·repeat first | refine sp_ ?_ | exact ex0
  (refine Qap [] ?_;simp (decide:=true) (disch:=omega) only [go_sem,↓reduceIte,↓Qad])
  try (simp;omega)
 ·repeat first | refine sp_ ?_ | exact ex0
  (refine Qap [] ?_;simp (decide:=true) (disch:=omega) only [go_sem,↓reduceIte,↓Qad])
  try (simp;omega)
def wrS (s:S8):List UInt8:=Qah 4 [s.clock / 4294967296 % 4294967296,s.clock % 4294967296,s.time,s.packets,s.bytes]
theorem QqP (s:S8) (hs:s.Ok) (hc:0≤s.clock∧s.clock≤1099511627776) (l:List UInt8) (hl:l.length+100≤140737488355328):Qan Tryz.prog 88 [.ca (.val (.agg (s8L s))),.ptr 0 0] [QeZ l] (.ca (.val (.tup []))) [QeZ (l++wrS s)]:=by
 obtain ⟨c,t,p,b⟩:=s
 obtain ⟨b1,b2,b3⟩:=hs
 dsimp only at *
 have c1:=Qca l [c / 4294967296 % 4294967296,c % 4294967296,t,p,b] (by simp only [List.length_cons,List.length_nil];omega) (by simp only [List.mem_cons,List.not_mem_nil,or_false];rintro n (rfl | rfl | rfl | rfl | rfl) <;> omega)
 refine Qaa Tryz.func88 rfl Tryz.ntmps88 Tryz.results88 ⟨by decide,by simp⟩ fun C hC=>?_
 repeat first | refine sp_ ?_ | exact ex0
 refine Qac Tryz.call59 c1 [(1000,0)] ?_
 repeat first | refine sp_ ?_ | exact ex0
 have e:c / 4294967296 % 4294967296=c / 4294967296:=Int.emod_eq_of_lt (by omega) (by omega)
 refine ⟨by rw [e,IntKind.wrap_u32],?_⟩
 (refine Qap [] ?_;simp (decide:=true) (disch:=omega) only [go_sem,↓reduceIte,↓Qad])
 try rfl
def rdS (x:List UInt8 × Int):S8:=
 ⟨if 256<vl 4 x then -1 else vl 4 x * 4294967296+vl 4 (nx 4 x),vl 4 (nx 4 (nx 4 x)),vl 4 (nx 4 (nx 4 (nx 4 x))),vl 4 (nx 4 (nx 4 (nx 4 (nx 4 x))))⟩
def nxS (x:List UInt8 × Int):List UInt8 × Int:=nx 4 (nx 4 (nx 4 (nx 4 (nx 4 x))))
theorem QnE (x:List UInt8 × Int) (hl:x.1.length≤maxLen):Qan Tryz.prog 240 [.ptr 0 0] [inO x.1 x.2] (.ca (.val (.agg (s8L (rdS x))))) [inO (nxS x).1 (nxS x).2]:=by
 unfold rdS nxS
 have v1:=Qhl 4 4294967296 x (by decide)
 have r1:=Qmy x hl
 have l1:=Nat.le_trans (QaM 4 x) hl
 generalize nx 4 x=x1 at *
 have v2:=Qhl 4 4294967296 x1 (by decide)
 have r2:=Qmy x1 l1
 have l2:=Nat.le_trans (QaM 4 x1) l1
 generalize nx 4 x1=x2 at *
 have r3:=Qmy x2 l2
 have l3:=Nat.le_trans (QaM 4 x2) l2
 generalize nx 4 x2=x3 at *
 have r4:=Qmy x3 l3
 have l4:=Nat.le_trans (QaM 4 x3) l3
 generalize nx 4 x3=x4 at *
 have r5:=Qmy x4 l4
 generalize nx 4 x4=x5 at *
 generalize vl 4 x=a at *
 generalize vl 4 x1=b at *
 by_cases h:256<a
 ·rw [if_pos h]
  refine Qaa Tryz.func240 rfl Tryz.ntmps240 Tryz.results240 ⟨by decide,by simp⟩ fun C hC=>?_
  repeat first | refine sp_ ?_ | exact ex0
  refine Qac Tryz.call124 r1 [(1000,0)] ?_
  repeat first | refine sp_ ?_ | exact ex0
  refine Qac Tryz.call124 r2 [(1000,0)] ?_
  repeat first | refine sp_ ?_ | exact ex0
  refine Qac Tryz.call124 r3 [(1000,0)] ?_
  repeat first | refine sp_ ?_ | exact ex0
  refine Qac Tryz.call124 r4 [(1000,0)] ?_
  repeat first | refine sp_ ?_ | exact ex0
  refine Qac Tryz.call124 r5 [(1000,0)] ?_
  repeat first | refine sp_ ?_ | exact ex0
  exact re0 []
 ·rw [if_neg h]
  have hor:bits .or .i64 (a * 4294967296) b=a * 4294967296+b:=Qhp 32 _ _ (by omega) (by omega) (by omega) (by omega) (by omega) (by omega)
  refine Qaa Tryz.func240 rfl Tryz.ntmps240 Tryz.results240 ⟨by decide,by simp⟩ fun C hC=>?_
  repeat first | refine sp_ ?_ | exact ex0
  refine Qac Tryz.call124 r1 [(1000,0)] ?_
  repeat first | refine sp_ ?_ | exact ex0
  refine Qac Tryz.call124 r2 [(1000,0)] ?_
  repeat first | refine sp_ ?_ | exact ex0
  refine Qac Tryz.call124 r3 [(1000,0)] ?_
  repeat first | refine sp_ ?_ | exact ex0
  refine Qac Tryz.call124 r4 [(1000,0)] ?_
  repeat first | refine sp_ ?_ | exact ex0
  refine Qac Tryz.call124 r5 [(1000,0)] ?_
  repeat first | refine sp_ ?_ | exact ex0
  (refine Qap [] ?_;simp (decide:=true) (disch:=omega) only [go_sem,↓reduceIte,↓Qad])
  exact hor
structure R8 where
 src:Int
 isS:Bool
 sent:S8
 bs:List B8
 deriving DecidableEq
abbrev r8L (r:R8):List V:=[vu r.src,vb r.isS,vi r.sent.clock,vu r.sent.time,vu r.sent.packets,vu r.sent.bytes,.lst 7 (r.bs.map Qvb)]
theorem Qxi (s:S8) (w:World):(binOp .neq 120 (.agg [.int .i64 s.clock,.int .u32 s.time,.int .u32 s.packets,.int .u32 s.bytes].toArray) (.agg [.int .i64 0,.int .u32 0,.int .u32 0,.int .u32 0].toArray)).run Tryz.prog w=.ok (.bool (!decide (s=⟨0,0,0,0⟩))) w:=by
 obtain ⟨a,b,c,d⟩:=s
 by_cases h1:a=0
 ·by_cases h2:b=0
  ·by_cases h3:c=0
   ·by_cases h4:d=0
    ·subst h1 h2 h3 h4
     simp [go_sem]
    ·simp [go_sem,h1,h2,h3,h4]
   ·simp [go_sem,h1,h2,h3]
  ·simp [go_sem,h1,h2]
 ·simp [go_sem,h1]
def Qym (r:R8):Bool:=isS r.sent && (r.isS || decide (r.sent=⟨0,0,0,0⟩)) && decide (r.bs.length≤31) && r.bs.all QqO
theorem Qhd (r:R8) (hl:r.bs.length≤9223372036854775807):Qan Tryz.prog 87 [.ca (.val (.agg (r8L r)))] [] (.ca (.val (vi (if Qym r=true then 0 else 6)))) []:=by
 obtain ⟨src,is,st,bs⟩:=r
 have hi:=Quw st
 have hc:=Qxi st
 dsimp only at *
 unfold Qym
 dsimp only
 cases h1:isS st with
 | false=>
  rw [h1] at hi
  refine Qaa Tryz.func87 rfl Tryz.ntmps87 Tryz.results87 ⟨by decide,by simp⟩ fun C hC=>?_
  repeat first | refine sp_ ?_ | exact ex0
  refine Qac Tryz.call146 hi [] ?_
  repeat first | refine sp_ ?_ | exact ex0
  (refine Qap [] ?_;simp (decide:=true) (disch:=omega) only [go_sem,↓reduceIte,↓Qad])
  try simp
 | true=>
  rw [h1] at hi
  cases is with
  | true=>
   by_cases h3:31<bs.length
   ·refine Qaa Tryz.func87 rfl Tryz.ntmps87 Tryz.results87 ⟨by decide,by simp⟩ fun C hC=>?_
    repeat first | refine sp_ ?_ | exact ex0
    refine Qac Tryz.call146 hi [] ?_
    repeat first | refine sp_ ?_ | exact ex0
    (refine Qap [] ?_;simp (decide:=true) (disch:=omega) only [go_sem,↓reduceIte,↓Qad])
    try (simp;omega)
   ·refine Qaa Tryz.func87 rfl Tryz.ntmps87 Tryz.results87 ⟨by decide,by simp⟩ fun C hC=>?_
    repeat first | refine sp_ ?_ | exact ex0
    refine Qac Tryz.call146 hi [] ?_
    repeat first | refine sp_ ?_ | exact ex0
    refine QaD (α:={j:Nat // j≤bs.length∧(bs.take j).all QqO=true}) (fun j=>[(.s 27,.av (.val (.lst 7 (bs.map Qvb)))),(.s 28,.av (.val (vi bs.length))),(.s 29,.av (.val (vi j.1)))]) (fun j=>bs.length-j.1) ⟨0,Nat.zero_le _,rfl⟩ ?_ (fun j=>?_)
    ·exact ex0
    ·obtain ⟨j,hj,ha⟩:=j
     dsimp only at hj ⊢
     by_cases hlt:j<bs.length
     ·have hm:=QiX bs[j]
      cases hb:QqO bs[j] with
      | false=>
       rw [hb] at hm
       have hall:bs.all QqO=false:=by
        cases hx:bs.all QqO with
        | false=>rfl
        | true=>have:=List.all_eq_true.1 hx _ (List.getElem_mem hlt);rw [hb] at this;cases this
       repeat first | refine sp_ ?_ | exact ex0
       refine Qac Tryz.call147 hm [] ?_
       repeat first | refine sp_ ?_ | exact ex0
       (refine Qap [] ?_;simp (decide:=true) (disch:=omega) only [go_sem,↓reduceIte,↓Qad])
       simp [hall]
      | true=>
       rw [hb] at hm
       repeat first | refine sp_ ?_ | exact ex0
       refine Qac Tryz.call147 hm [] ?_
       repeat first | refine sp_ ?_ | exact ex0
       refine Qau ⟨j+1,hlt,by rw [List.take_succ_eq_append_getElem hlt,List.all_append,ha];simp [hb]⟩ ⟨?_,by dsimp only;omega⟩
       exact ex0
     ·have hall:bs.all QqO=true:=by rw [List.take_of_length_le (by omega)] at ha;exact ha
      repeat first | refine sp_ ?_ | exact ex0
      (refine Qap [] ?_;simp (decide:=true) (disch:=omega) only [go_sem,↓reduceIte,↓Qad])
      simp [hall]
      try omega
  | false=>
   by_cases h2:st=⟨0,0,0,0⟩
   ·rw [decide_eq_true h2] at hc
    by_cases h3:31<bs.length
    ·refine Qaa Tryz.func87 rfl Tryz.ntmps87 Tryz.results87 ⟨by decide,by simp⟩ fun C hC=>?_
     repeat first | refine sp_ ?_ | exact ex0
     refine Qac Tryz.call146 hi [] ?_
     repeat first | refine sp_ ?_ | exact ex0
     refine Qkm [.int .i64 st.clock,.int .u32 st.time,.int .u32 st.packets,.int .u32 st.bytes] [.int .i64 0,.int .u32 0,.int .u32 0,.int .u32 0] _ (.inr rfl) ex0 ex0 ex0 (by kernel_rfl) hc ?_
     repeat first | refine sp_ ?_ | exact ex0
     (refine Qap [] ?_;simp (decide:=true) (disch:=omega) only [go_sem,↓reduceIte,↓Qad])
     try (simp;omega)
    ·refine Qaa Tryz.func87 rfl Tryz.ntmps87 Tryz.results87 ⟨by decide,by simp⟩ fun C hC=>?_
     repeat first | refine sp_ ?_ | exact ex0
     refine Qac Tryz.call146 hi [] ?_
     repeat first | refine sp_ ?_ | exact ex0
     refine Qkm [.int .i64 st.clock,.int .u32 st.time,.int .u32 st.packets,.int .u32 st.bytes] [.int .i64 0,.int .u32 0,.int .u32 0,.int .u32 0] _ (.inr rfl) ex0 ex0 ex0 (by kernel_rfl) hc ?_
     repeat first | refine sp_ ?_ | exact ex0
     refine QaD (α:={j:Nat // j≤bs.length∧(bs.take j).all QqO=true}) (fun j=>[(.s 27,.av (.val (.lst 7 (bs.map Qvb)))),(.s 28,.av (.val (vi bs.length))),(.s 29,.av (.val (vi j.1)))]) (fun j=>bs.length-j.1) ⟨0,Nat.zero_le _,rfl⟩ ?_ (fun j=>?_)
     ·exact ex0
     ·obtain ⟨j,hj,ha⟩:=j
      dsimp only at hj ⊢
      by_cases hlt:j<bs.length
      ·have hm:=QiX bs[j]
       cases hb:QqO bs[j] with
       | false=>
        rw [hb] at hm
        have hall:bs.all QqO=false:=by
         cases hx:bs.all QqO with
         | false=>rfl
         | true=>have:=List.all_eq_true.1 hx _ (List.getElem_mem hlt);rw [hb] at this;cases this
        repeat first | refine sp_ ?_ | exact ex0
        refine Qac Tryz.call147 hm [] ?_
        repeat first | refine sp_ ?_ | exact ex0
        (refine Qap [] ?_;simp (decide:=true) (disch:=omega) only [go_sem,↓reduceIte,↓Qad])
        simp [hall,h2]
       | true=>
        rw [hb] at hm
        repeat first | refine sp_ ?_ | exact ex0
        refine Qac Tryz.call147 hm [] ?_
        repeat first | refine sp_ ?_ | exact ex0
        refine Qau ⟨j+1,hlt,by rw [List.take_succ_eq_append_getElem hlt,List.all_append,ha];simp [hb]⟩ ⟨?_,by dsimp only;omega⟩
        exact ex0
      ·have hall:bs.all QqO=true:=by rw [List.take_of_length_le (by omega)] at ha;exact ha
       repeat first | refine sp_ ?_ | exact ex0
       (refine Qap [] ?_;simp (decide:=true) (disch:=omega) only [go_sem,↓reduceIte,↓Qad])
       simp [hall,h2]
       try omega
   ·rw [decide_eq_false h2] at hc
    refine Qaa Tryz.func87 rfl Tryz.ntmps87 Tryz.results87 ⟨by decide,by simp⟩ fun C hC=>?_
    repeat first | refine sp_ ?_ | exact ex0
    refine Qac Tryz.call146 hi [] ?_
    repeat first | refine sp_ ?_ | exact ex0
    refine Qkm [.int .i64 st.clock,.int .u32 st.time,.int .u32 st.packets,.int .u32 st.bytes] [.int .i64 0,.int .u32 0,.int .u32 0,.int .u32 0] _ (.inr rfl) ex0 ex0 ex0 (by kernel_rfl) hc ?_
    repeat first | refine sp_ ?_ | exact ex0
    (refine Qap [] ?_;simp (decide:=true) (disch:=omega) only [go_sem,↓reduceIte,↓Qad])
    try simp [h2]
end Go.Proofs.YthfocmakkeonoaaGreatDoor
namespace Go.Proofs.YthfocmakkeonoaaGreatDoor
open Go.RowKit
theorem QAB (b:B8):(wrB b).length=24:=by simp [wrB,Qai]
theorem QkR (bs:List B8):(bs.flatMap wrB).length=24 * bs.length:=by
 induction bs with
 | nil=>rfl
 | cons b bs ih=>simp [QAB,ih];omega
theorem Qux (s:S8):(wrS s).length=20:=by simp [wrS,Qai]
def hdR (r:R8):List UInt8:=Qah 4 [r.src]++(if r.isS=true then wrS r.sent else [])
def Qe2 (r:R8):Pc:=if Qym r=true then (r.bs.length,if r.isS=true then 200 else 201,hdR r++r.bs.flatMap wrB) else (0,0,[])
structure R8.Ok (r:R8):Prop where
 src:0≤r.src∧r.src<4294967296
 sent:r.sent.Ok
 bs:∀ b∈r.bs,b.Ok
theorem Qmp (r:R8) (hr:r.Ok) (hl:r.bs.length≤9223372036854775807):Qan Tryz.prog 38 [.ca (.val (.agg (r8L r)))] [] (.ca (.val (pcV (Qe2 r)))) []:=by
 obtain ⟨src,is,st,bs⟩:=r
 have hc:=Qhd ⟨src,is,st,bs⟩ hl
 obtain ⟨hsrc,hst,hb⟩:=hr
 dsimp only at *
 cases hm:Qym ⟨src,is,st,bs⟩ with
 | false=>
  rw [hm,if_neg (by decide)] at hc
  have e:Qe2 ⟨src,is,st,bs⟩=(0,0,[]):=by unfold Qe2;rw [hm];rfl
  rw [e]
  refine Qaa Tryz.func38 rfl Tryz.ntmps38 Tryz.results38 ⟨by decide,by simp⟩ fun C hC=>?_
  repeat first | refine sp_ ?_ | exact ex0
  refine Qac Tryz.call87 hc [] ?_
  repeat first | refine sp_ ?_ | exact ex0
  exact re0 []
 | true=>
  rw [hm,if_pos rfl] at hc
  have hmm:=hm
  unfold Qym isS at hmm
  simp only [Bool.and_eq_true,decide_eq_true_eq] at hmm
  obtain ⟨⟨⟨hclk,_⟩,h31⟩,_⟩:=hmm
  have hsl:=Qux st
  have hz:=Qai 4 [src]
  simp only [List.length_cons,List.length_nil] at hz
  have c1:=Qca [] [src] (by simp) (by simpa using hsrc)
  rw [List.nil_append] at c1
  cases is with
  | true=>
   have e:Qe2 ⟨src,true,st,bs⟩=((bs.length:Int),(200:Int),(Qah 4 [src]++wrS st)++bs.flatMap wrB):=by unfold Qe2;rw [if_pos hm];rfl
   rw [e]
   have c2:=QqP st hst hclk (Qah 4 [src]) (by omega)
   obtain ⟨hd,hhd⟩:∃ hd,hd=Qah 4 [src]++wrS st:=⟨_,rfl⟩
   have hdl:hd.length=24:=by rw [hhd,List.length_append,hz,hsl]
   rw [←hhd] at c2 ⊢
   clear hhd
   refine Qaa Tryz.func38 rfl Tryz.ntmps38 Tryz.results38 ⟨by decide,by simp⟩ fun C hC=>?_
   repeat first | refine sp_ ?_ | exact ex0
   refine Qac Tryz.call87 hc [] ?_
   repeat first | refine sp_ ?_ | exact ex0
   refine Qac Tryz.call59 c1 [(3,0)] ?_
   repeat first | refine sp_ ?_ | exact ex0
   refine Qac Tryz.call88 c2 [(3,0)] ?_
   repeat first | refine sp_ ?_ | exact ex0
   refine QaD (α:={j:Nat // j≤bs.length}) (fun j=>[(.s 1,.av (.ptr (1,0) 0 0)),(.o (1,0),.num 7),(.c (1,0) 6,.av (.val (.lst 7 (bs.map Qvb)))),(.s 2,.av (.ptr (2,0) 0 0)),(.o (2,0),.num 3),(.s 3,.av (.ptr (3,0) 0 0)),(.o (3,0),.num 1),(.c (3,0) 0,.av (.own (3,1) 0 5 1 ((hd++(bs.take j.1).flatMap wrB).map QaG))),(.k (3,1),.row 5 1 ((hd++(bs.take j.1).flatMap wrB).map QaG).length),(.s 4,.av (.val (vi 200))),(.s 21,.av (.val (.lst 7 (bs.map Qvb)))),(.s 22,.av (.val (vi bs.length))),(.s 23,.av (.val (vi j.1)))]) (fun j=>bs.length-j.1) ⟨0,Nat.zero_le _⟩ ?_ (fun j=>?_)
   ·simp only [List.take_zero,List.flatMap_nil,List.append_nil]
    exact ex0
   ·obtain ⟨j,hj⟩:=j
    dsimp only at hj ⊢
    have hw:=QkR (bs.take j)
    rw [List.length_take,Nat.min_eq_left hj] at hw
    by_cases hlt:j<bs.length
    ·have ht:bs.take (j+1)=bs.take j++[bs[j]]:=List.take_succ_eq_append_getElem hlt
     have hwr:=Qhc bs[j] (hb _ (List.getElem_mem hlt)) (hd++(bs.take j).flatMap wrB) (by rw [List.length_append];omega)
     repeat first | refine sp_ ?_ | exact ex0
     refine Qac Tryz.call89 hwr [(3,0)] ?_
     repeat first | refine sp_ ?_ | exact ex0
     refine Qau ⟨j+1,hlt⟩ ⟨?_,by dsimp only;omega⟩
     rw [ht,List.flatMap_append]
     refine sx_ ?_
     simp [Nat.add_assoc]
    ·have e:bs.take j=bs:=List.take_of_length_le (by omega)
     rw [e] at hw ⊢
     repeat first | refine sp_ ?_ | exact ex0
     refine Qac Tryz.call22 (Qa3 (hd++bs.flatMap wrB) (by rw [List.length_append];omega)) [(3,0)] ?_
     repeat first | refine sp_ ?_ | exact ex0
     exact re0 []
  | false=>
   have e:Qe2 ⟨src,false,st,bs⟩=((bs.length:Int),(201:Int),Qah 4 [src]++bs.flatMap wrB):=by unfold Qe2;rw [if_pos hm];simp [hdR]
   rw [e]
   obtain ⟨hd,hhd⟩:∃ hd,hd=Qah 4 [src]:=⟨_,rfl⟩
   have hdl:hd.length=4:=by rw [hhd,hz]
   rw [←hhd] at c1 ⊢
   clear hhd
   refine Qaa Tryz.func38 rfl Tryz.ntmps38 Tryz.results38 ⟨by decide,by simp⟩ fun C hC=>?_
   repeat first | refine sp_ ?_ | exact ex0
   refine Qac Tryz.call87 hc [] ?_
   repeat first | refine sp_ ?_ | exact ex0
   refine Qac Tryz.call59 c1 [(3,0)] ?_
   repeat first | refine sp_ ?_ | exact ex0
   refine QaD (α:={j:Nat // j≤bs.length}) (fun j=>[(.s 1,.av (.ptr (1,0) 0 0)),(.o (1,0),.num 7),(.c (1,0) 6,.av (.val (.lst 7 (bs.map Qvb)))),(.s 2,.av (.ptr (2,0) 0 0)),(.o (2,0),.num 3),(.s 3,.av (.ptr (3,0) 0 0)),(.o (3,0),.num 1),(.c (3,0) 0,.av (.own (3,1) 0 5 1 ((hd++(bs.take j.1).flatMap wrB).map QaG))),(.k (3,1),.row 5 1 ((hd++(bs.take j.1).flatMap wrB).map QaG).length),(.s 4,.av (.val (vi 201))),(.s 21,.av (.val (.lst 7 (bs.map Qvb)))),(.s 22,.av (.val (vi bs.length))),(.s 23,.av (.val (vi j.1)))]) (fun j=>bs.length-j.1) ⟨0,Nat.zero_le _⟩ ?_ (fun j=>?_)
   ·simp only [List.take_zero,List.flatMap_nil,List.append_nil]
    exact ex0
   ·obtain ⟨j,hj⟩:=j
    dsimp only at hj ⊢
    have hw:=QkR (bs.take j)
    rw [List.length_take,Nat.min_eq_left hj] at hw
    by_cases hlt:j<bs.length
    ·have ht:bs.take (j+1)=bs.take j++[bs[j]]:=List.take_succ_eq_append_getElem hlt
     have hwr:=Qhc bs[j] (hb _ (List.getElem_mem hlt)) (hd++(bs.take j).flatMap wrB) (by rw [List.length_append];omega)
     repeat first | refine sp_ ?_ | exact ex0
     refine Qac Tryz.call89 hwr [(3,0)] ?_
     repeat first | refine sp_ ?_ | exact ex0
     refine Qau ⟨j+1,hlt⟩ ⟨?_,by dsimp only;omega⟩
     rw [ht,List.flatMap_append]
     refine sx_ ?_
     simp [Nat.add_assoc]
    ·have e:bs.take j=bs:=List.take_of_length_le (by omega)
     rw [e] at hw ⊢
     repeat first | refine sp_ ?_ | exact ex0
     refine Qac Tryz.call22 (Qa3 (hd++bs.flatMap wrB) (by rw [List.length_append];omega)) [(3,0)] ?_
     repeat first | refine sp_ ?_ | exact ex0
     exact re0 []
end Go.Proofs.YthfocmakkeonoaaGreatDoor
namespace Go.Proofs.YthfocmakkeonoaaGreatDoor
open Go.RowKit
theorem QFe (a1 b1:Int) (a2 b2:Int) (a3 b3:List UInt8) (w:World):(binOp .eql 116 (.agg [.int .i64 a1,.int .i64 a2,str a3].toArray) (.agg [.int .i64 b1,.int .i64 b2,str b3].toArray)).run Tryz.prog w=.ok (.bool (decide (a1=b1∧a2=b2∧a3=b3))) w:=by
 by_cases h1:a1=b1
 ·by_cases h2:a2=b2
  ·by_cases h3:a3=b3
   ·subst h1 h2 h3;simp [go_sem]
   ·have e:(a3 == b3)=false:=by simpa using h3
    simp [go_sem,h1,h2,h3,e]
  ·simp [go_sem,h1,h2]
 ·simp [go_sem,h1]
theorem Quy (a1 b1:Int) (a2 b2:Int) (a3 b3:List UInt8) (w:World):(binOp .neq 116 (.agg [.int .i64 a1,.int .i64 a2,str a3].toArray) (.agg [.int .i64 b1,.int .i64 b2,str b3].toArray)).run Tryz.prog w=.ok (.bool (!decide (a1=b1∧a2=b2∧a3=b3))) w:=by
 by_cases h1:a1=b1
 ·by_cases h2:a2=b2
  ·by_cases h3:a3=b3
   ·subst h1 h2 h3;simp [go_sem]
   ·have e:(a3 == b3)=false:=by simpa using h3
    simp [go_sem,h1,h2,h3,e]
  ·simp [go_sem,h1,h2]
 ·simp [go_sem,h1]
end Go.Proofs.YthfocmakkeonoaaGreatDoor
