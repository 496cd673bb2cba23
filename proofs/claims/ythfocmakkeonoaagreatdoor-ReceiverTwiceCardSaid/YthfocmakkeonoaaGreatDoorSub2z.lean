/- Layer 11 (subflow): lines and adverts read; walked. -/
import Derived.Test.YthfocmakkeonoaaGreatDoorSub1z
set_option linter.unusedVariables false
set_option linter.unusedSimpArgs false
set_option maxRecDepth 100000
set_option maxHeartbeats 16000000
namespace Go.Proofs.YthfocmakkeonoaaGreatDoor
open Go.RowKit
theorem Qeq (b:List UInt8) (T a k c:Nat) (h:T+a+k≤b.length) (hk:a+k≤c):vl k (goX (T+a) b)=QaP ((((b.drop T).take c).drop a).take k):=by
 rw [Qdr k (T+a) b h,List.drop_take,List.take_take,List.drop_drop,Nat.min_eq_left (by omega)]
theorem Qi2 (l:List UInt8) (a:Nat):QaP ((l.drop a).take 4)<4294967296:=by
 have h:=Qb9 ((l.drop a).take 4)
 have h2:((l.drop a).take 4).length≤4:=by rw [List.length_take];omega
 exact Nat.lt_of_lt_of_le h (Nat.le_trans (Nat.pow_le_pow_right (by omega) h2) (by decide))
theorem QAN (s:List UInt8):(Qyh s).Ok:=by
 have h1:=Qi2 s 8
 have h2:=Qi2 s 12
 have h3:=Qi2 s 16
 have h4:=Qi2 s 20
 have h5:=Qi2 s 24
 unfold Qyh
 exact ⟨by dsimp only;omega,by dsimp only;omega,by dsimp only;omega,by dsimp only;omega,by dsimp only;omega⟩
theorem Qxt (b:List UInt8) (T:Nat) (hb:b.length≤maxLen) (h:T+28≤b.length):Qan Tryz.prog 247 [.ptr 0 0] [inO (goX T b).1 (goX T b).2] (.ca (.val (.agg (QDc (Qyh ((b.drop T).take 28)))))) [inO (goX (T+28) b).1 (goX (T+28) b).2]:=by
 have c0:=gx8 b T hb
 have c1:=gx8 b (T+1) hb
 have c2:=QDJ b (T+2) hb
 have c3:=QGo b (T+4) hb
 have c4:=gx8 b (T+7) hb
 have c5:=Qxh b (T+8) hb
 have c6:=Qxh b (T+12) hb
 have c7:=Qxh b (T+16) hb
 have c8:=Qxh b (T+20) hb
 have c9:=Qxh b (T+24) hb
 rw [show vl 1 (goX T b)=QaP (((b.drop T).take 28).take 1) from Qeq b T 0 1 28 (by omega) (by omega)] at c0
 rw [Qeq b T 1 1 28 (by omega) (by omega)] at c1
 rw [Qeq b T 4 3 28 (by omega) (by omega)] at c3
 rw [Qeq b T 8 4 28 (by omega) (by omega)] at c5
 rw [Qeq b T 12 4 28 (by omega) (by omega)] at c6
 rw [Qeq b T 16 4 28 (by omega) (by omega)] at c7
 rw [Qeq b T 20 4 28 (by omega) (by omega)] at c8
 rw [Qeq b T 24 4 28 (by omega) (by omega)] at c9
 simp only [Nat.add_assoc,Nat.reduceAdd] at c1 c2 c3 c4 c5 c6 c7 c8 c9
 have hl:((b.drop T).take 28).length=28:=by rw [List.length_take,List.length_drop];omega
 unfold Qyh
 generalize (b.drop T).take 28=s at *
 have hg:=Qb9 ((s.drop 4).take 3)
 rw [List.length_take,List.length_drop,Nat.min_eq_left (by omega)] at hg
 generalize QaP (s.take 1)=v0 at *
 generalize QaP ((s.drop 1).take 1)=v1 at *
 generalize QaP ((s.drop 4).take 3)=g at *
 generalize QaP ((s.drop 8).take 4)=v5 at *
 generalize QaP ((s.drop 12).take 4)=v6 at *
 generalize QaP ((s.drop 16).take 4)=v7 at *
 generalize QaP ((s.drop 20).take 4)=v8 at *
 generalize QaP ((s.drop 24).take 4)=v9 at *
 unfold sg3
 by_cases hq:(8388608:Int)≤(g:Int)
 ·rw [if_pos hq]
  refine Qaa Tryz.func247 rfl Tryz.ntmps247 Tryz.results247 ⟨by decide,by simp⟩ fun C hC=>?_
  repeat' first | refine sp_ ?_ | exact ex0 | refine Qab Tryz.call122 (c0) [(1000,0)] ex1 ?_ | refine Qab Tryz.call122 (c1) [(1000,0)] ex1 ?_ | refine Qab Tryz.call123 (c2) [(1000,0)] ex1 ?_ | refine Qab Tryz.call252 (c3) [(1000,0)] ex1 ?_ | refine Qab Tryz.call122 (c4) [(1000,0)] ex1 ?_ | refine Qab Tryz.call124 (c5) [(1000,0)] ex1 ?_ | refine Qab Tryz.call124 (c6) [(1000,0)] ex1 ?_ | refine Qab Tryz.call124 (c7) [(1000,0)] ex1 ?_ | refine Qab Tryz.call124 (c8) [(1000,0)] ex1 ?_ | refine Qab Tryz.call124 (c9) [(1000,0)] ex1 ?_ | exact re0 []
 ·rw [if_neg hq]
  refine Qaa Tryz.func247 rfl Tryz.ntmps247 Tryz.results247 ⟨by decide,by simp⟩ fun C hC=>?_
  repeat' first | refine sp_ ?_ | exact ex0 | refine Qab Tryz.call122 (c0) [(1000,0)] ex1 ?_ | refine Qab Tryz.call122 (c1) [(1000,0)] ex1 ?_ | refine Qab Tryz.call123 (c2) [(1000,0)] ex1 ?_ | refine Qab Tryz.call252 (c3) [(1000,0)] ex1 ?_ | refine Qab Tryz.call122 (c4) [(1000,0)] ex1 ?_ | refine Qab Tryz.call124 (c5) [(1000,0)] ex1 ?_ | refine Qab Tryz.call124 (c6) [(1000,0)] ex1 ?_ | refine Qab Tryz.call124 (c7) [(1000,0)] ex1 ?_ | refine Qab Tryz.call124 (c8) [(1000,0)] ex1 ?_ | refine Qab Tryz.call124 (c9) [(1000,0)] ex1 ?_ | exact re0 []
theorem QnK (p:Pc) (hp:p.2.2.length≤maxLen):Qan Tryz.prog 231 [.ca (.val (pcV p))] [] (.ca (.val (.tup [.agg (Qu8 (Qdx p)),vi (QcF p)]))) []:=by
 obtain ⟨f,k,b⟩:=p
 dsimp only at hp
 obtain ⟨E,hE⟩:∃ E,E=QcF (f,k,b):=⟨_,rfl⟩
 obtain ⟨R,hR⟩:∃ R,R=Qdx (f,k,b):=⟨_,rfl⟩
 rw [←hE,←hR]
 unfold Qdx at hR
 rw [←hE] at hR
 unfold QcF at hE
 dsimp only at hE hR
 by_cases hk:k=211
 ·by_cases hf:f=1
  ·rw [if_neg (by omega)] at hE
   subst hk hf
   have c0:=QAz b
   have c1:=Qxh b 0 hp
   rw [←QeF] at c1
   have hs:=Qhl 4 4294967296 (b,0) (by decide)
   have hraw:Qgf b=⟨vl 4 (b,0),QkM b (Qgd 28 b)⟩:=rfl
   have c5:=QuM (Qgf b) (by rw [hraw];exact hs) (by
    rw [hraw]
    intro x hx
    obtain ⟨i,_,rfl⟩:=List.mem_map.1 hx
    exact QAN _) (by rw [hraw];dsimp only;rw [Qml];unfold Qgd maxLen;omega)
   obtain ⟨Q,hQ⟩:∃ Q,Q=QiV (Qgf b):=⟨_,rfl⟩
   rw [←hQ] at c5 hE
   rw [hraw] at c5 hR
   clear hQ hraw
   obtain ⟨qf,qk,qs⟩:=Q
   have hcm:=Quy qf 1 qk 211 qs b
   rw [show (b,(0:Int))=goX 0 b from QeF b] at *
   generalize vl 4 (goX 0 b)=src at *
   obtain ⟨n,hn⟩:∃ n,n=Qgd 28 b:=⟨_,rfl⟩
   rw [←hn] at c5 hR
   unfold Qgd at hn
   have hn15:n≤15:=by omega
   have hnd:n≤(b.length-4) / 28:=by omega
   have hnx:n=15∨n=(b.length-4) / 28:=by omega
   clear hn
   refine Qaa Tryz.func231 rfl Tryz.ntmps231 Tryz.results231 ⟨by decide,by simp⟩ fun C hC=>?_
   (repeat' ((fail_if_success (refine Qat 5 ?_));(first | refine sp_ ?_ | exact ex0 | refine Qab Tryz.call121 (c0) [] ex1 ?_ | refine Qab Tryz.call124 (c1) [(17,0)] ex1 ?_ | exact re0 [])))
   refine Qb2 (5,0) 1 (5,2) 200 8 ?_
   refine sx_ ?_
   refine QaD (α:={j:Nat // j≤n}) (fun j=>[(.o (1,0),.num 3),(.c (1,0) 0,.av (.val (vi 1))),(.c (1,0) 1,.av (.val (vi 211))),(.c (1,0) 2,.av (.val (vs b))),(.s 1,.av (.ptr (1,0) 0 0)),(.o (2,0),.num 2),(.c (2,0) 0,.av (.val (vu 0))),(.c (2,0) 1,.av (.val (.sc (.slice none 0 0)))),(.s 2,.av (.ptr (2,0) 0 0)),(.s 3,.av (.val (vi 0))),(.s 4,.av (.ptr (17,0) 0 0)),(.o (17,0),.num 2),(.c (17,0) 0,.av (.val (vs (goX (4+28 * j.1) b).1))),(.c (17,0) 1,.av (.val (vi (goX (4+28 * j.1) b).2))),(.o (5,0),.num 2),(.c (5,0) 0,.av (.val (vu src))),(.c (5,0) 1,.av (.own (5,2) 0 200 8 ((QkM b j.1).map QiT))),(.k (5,2),.row 200 8 (QkM b j.1).length),(.s 5,.av (.ptr (5,0) 0 0))]) (fun j=>n-j.1) ⟨0,Nat.zero_le _⟩ ?_ (fun j=>?_)
   ·(try dsimp only)
    rw [show QkM b 0=[] from rfl]
    exact ex0
   ·obtain ⟨j,hj⟩:=j
    dsimp only at hj ⊢
    have c3:=QnD b (4+28 * j)
    have hpl:=Qml b j
    by_cases hlt:j<n
    ·have c4:=Qxt b (4+28 * j) hp (by omega)
     have hsu:=QqI b j
     have e4:4+28 * j+28=4+28 * (j+1):=by omega
     rw [e4] at c4
     have hbl:(b.drop (4+28 * j)).take 28=QqF 28 b j:=rfl
     rw [hbl] at c4
     generalize Qyh (QqF 28 b j)=x at *
     have hleft:(28:Int)≤((b.length-(4+28 * j):Nat):Int):=by omega
     repeat' first | refine sp_ ?_ | exact ex0 | refine Qab Tryz.call126 (c3) [(17,0)] ex1 ?_ | refine Qab Tryz.call247 (c4) [(17,0)] ex1 ?_ | exact re0 []
     refine Qau (α:={j:Nat // j≤n}) ⟨j+1,hlt⟩ ⟨?_,by (try dsimp only);omega⟩
     (try dsimp only)
     rw [hsu]
     refine sx_ ?_
     rw [List.map_append]
     rfl
    ·obtain rfl:j=n:=by omega
     by_cases hq:(qf,qk,qs)=(1,211,b)
     ·rw [if_pos hq] at hE
      subst hE
      rw [if_pos rfl] at hR
      subst hR
      simp only [Prod.mk.injEq] at hq
      rw [decide_eq_true hq] at hcm
      by_cases hleft:(28:Int)≤((b.length-(4+28 * j):Nat):Int)
      ·obtain rfl:j=15:=by omega
       repeat' first | refine sp_ ?_ | exact ex0 | refine Qab Tryz.call126 (c3) [(17,0)] ex1 ?_ | refine Qab Tryz.call98 (c5) [] ex1 ?_ | exact re0 []
       refine Qcn _ _ _ (.inr rfl) ex0 ex0 (by kernel_rfl) hcm ?_
       repeat' first | refine sp_ ?_ | exact ex0 | exact re0 []
      ·repeat' first | refine sp_ ?_ | exact ex0 | refine Qab Tryz.call126 (c3) [(17,0)] ex1 ?_ | refine Qab Tryz.call98 (c5) [] ex1 ?_ | exact re0 []
       refine Qcn _ _ _ (.inr rfl) ex0 ex0 (by kernel_rfl) hcm ?_
       repeat' first | refine sp_ ?_ | exact ex0 | exact re0 []
     ·rw [if_neg hq] at hE
      subst hE
      rw [if_neg (by decide)] at hR
      subst hR
      simp only [Prod.mk.injEq] at hq
      rw [decide_eq_false hq] at hcm
      by_cases hleft:(28:Int)≤((b.length-(4+28 * j):Nat):Int)
      ·obtain rfl:j=15:=by omega
       repeat' first | refine sp_ ?_ | exact ex0 | refine Qab Tryz.call126 (c3) [(17,0)] ex1 ?_ | refine Qab Tryz.call98 (c5) [] ex1 ?_ | exact re0 []
       refine Qcn _ _ _ (.inr rfl) ex0 ex0 (by kernel_rfl) hcm ?_
       repeat' first | refine sp_ ?_ | exact ex0 | exact re0 []
      ·repeat' first | refine sp_ ?_ | exact ex0 | refine Qab Tryz.call126 (c3) [(17,0)] ex1 ?_ | refine Qab Tryz.call98 (c5) [] ex1 ?_ | exact re0 []
       refine Qcn _ _ _ (.inr rfl) ex0 ex0 (by kernel_rfl) hcm ?_
       repeat' first | refine sp_ ?_ | exact ex0 | exact re0 []
  ·rw [if_pos (.inr hf)] at hE
   subst hE
   rw [if_neg (by decide)] at hR
   subst hR
   refine Qaa Tryz.func231 rfl Tryz.ntmps231 Tryz.results231 ⟨by decide,by simp⟩ fun C hC=>?_
   repeat' first | refine sp_ ?_ | exact ex0 | exact re0 []
 ·rw [if_pos (.inl hk)] at hE
  subst hE
  rw [if_neg (by decide)] at hR
  subst hR
  refine Qaa Tryz.func231 rfl Tryz.ntmps231 Tryz.results231 ⟨by decide,by simp⟩ fun C hC=>?_
  repeat' first | refine sp_ ?_ | exact ex0 | exact re0 []
theorem QuN (p:Pc) (hp:p.2.2.length≤maxLen):Qan Tryz.prog 233 [.ca (.val (pcV p))] [] (.ca (.val (.tup [.agg (Qu9 (QqH p)),vi (QnA p)]))) []:=by
 obtain ⟨f,k,b⟩:=p
 dsimp only at hp
 obtain ⟨E,hE⟩:∃ E,E=QnA (f,k,b):=⟨_,rfl⟩
 obtain ⟨R,hR⟩:∃ R,R=QqH (f,k,b):=⟨_,rfl⟩
 rw [←hE,←hR]
 unfold QqH at hR
 rw [←hE] at hR
 unfold QnA at hE
 dsimp only at hE hR
 by_cases hk:k=211
 ·by_cases hf:f=2
  ·rw [if_neg (by omega)] at hE
   subst hk hf
   have c0:=QAz b
   have c1:=Qxh b 0 hp
   rw [←QeF] at c1
   have hs:=Qhl 4 4294967296 (b,0) (by decide)
   have hraw:Qmk b=⟨vl 4 (b,0),QkN b (Qgd 4 b)⟩:=rfl
   have c5:=QAM (Qmk b) (by rw [hraw];exact hs) (by rw [hraw];dsimp only;rw [Qmm];unfold Qgd maxLen;omega)
   obtain ⟨Q,hQ⟩:∃ Q,Q=QDI (Qmk b):=⟨_,rfl⟩
   rw [←hQ] at c5 hE
   rw [hraw] at c5 hR
   clear hQ hraw
   obtain ⟨qf,qk,qs⟩:=Q
   have hcm:=Quy qf 2 qk 211 qs b
   rw [show (b,(0:Int))=goX 0 b from QeF b] at *
   generalize vl 4 (goX 0 b)=src at *
   obtain ⟨n,hn⟩:∃ n,n=Qgd 4 b:=⟨_,rfl⟩
   rw [←hn] at c5 hR
   unfold Qgd at hn
   have hn15:n≤15:=by omega
   have hnd:n≤(b.length-4) / 4:=by omega
   have hnx:n=15∨n=(b.length-4) / 4:=by omega
   clear hn
   refine Qaa Tryz.func233 rfl Tryz.ntmps233 Tryz.results233 ⟨by decide,by simp⟩ fun C hC=>?_
   (repeat' ((fail_if_success (refine Qat 5 ?_));(first | refine sp_ ?_ | exact ex0 | refine Qab Tryz.call121 (c0) [] ex1 ?_ | refine Qab Tryz.call124 (c1) [(17,0)] ex1 ?_ | exact re0 [])))
   refine Qb2 (5,0) 1 (5,2) 270 3 ?_
   refine sx_ ?_
   refine QaD (α:={j:Nat // j≤n}) (fun j=>[(.o (1,0),.num 3),(.c (1,0) 0,.av (.val (vi 2))),(.c (1,0) 1,.av (.val (vi 211))),(.c (1,0) 2,.av (.val (vs b))),(.s 1,.av (.ptr (1,0) 0 0)),(.o (2,0),.num 2),(.c (2,0) 0,.av (.val (vu 0))),(.c (2,0) 1,.av (.val (.sc (.slice none 0 0)))),(.s 2,.av (.ptr (2,0) 0 0)),(.s 3,.av (.val (vi 0))),(.s 4,.av (.ptr (17,0) 0 0)),(.o (17,0),.num 2),(.c (17,0) 0,.av (.val (vs (goX (4+4 * j.1) b).1))),(.c (17,0) 1,.av (.val (vi (goX (4+4 * j.1) b).2))),(.o (5,0),.num 2),(.c (5,0) 0,.av (.val (vu src))),(.c (5,0) 1,.av (.own (5,2) 0 270 3 ((QkN b j.1).map QiU))),(.k (5,2),.row 270 3 (QkN b j.1).length),(.s 5,.av (.ptr (5,0) 0 0))]) (fun j=>n-j.1) ⟨0,Nat.zero_le _⟩ ?_ (fun j=>?_)
   ·(try dsimp only)
    rw [show QkN b 0=[] from rfl]
    exact ex0
   ·obtain ⟨j,hj⟩:=j
    dsimp only at hj ⊢
    have c3:=QnD b (4+4 * j)
    have hpl:=Qmm b j
    by_cases hlt:j<n
    ·have c4:=gx8 b (4+4 * j) hp
     have c6:=gx8 b (4+4 * j+1) hp
     have c7:=QDJ b (4+4 * j+2) hp
     rw [show vl 1 (goX (4+4 * j) b)=QaP ((QqF 4 b j).take 1) from Qeq b (4+4 * j) 0 1 4 (by omega) (by omega)] at c4
     rw [show vl 1 (goX (4+4 * j+1) b)=QaP (((QqF 4 b j).drop 1).take 1) from Qeq b (4+4 * j) 1 1 4 (by omega) (by omega)] at c6
     rw [show vl 2 (goX (4+4 * j+2) b)=QaP (((QqF 4 b j).drop 2).take 2) from Qeq b (4+4 * j) 2 2 4 (by omega) (by omega)] at c7
     have hsu:=QqJ b j
     have e4:4+4 * j+2+2=4+4 * (j+1):=by omega
     rw [e4] at c7
     unfold QDH at hsu
     generalize QaP ((QqF 4 b j).take 1)=v1 at *
     generalize QaP (((QqF 4 b j).drop 1).take 1)=v2 at *
     generalize QaP (((QqF 4 b j).drop 2).take 2)=v3 at *
     have hleft:(4:Int)≤((b.length-(4+4 * j):Nat):Int):=by omega
     by_cases hv:v2=1
     ·rw [decide_eq_true hv] at hsu
      subst hv
      repeat' first | refine sp_ ?_ | exact ex0 | refine Qab Tryz.call126 (c3) [(17,0)] ex1 ?_ | refine Qab Tryz.call122 (c4) [(17,0)] ex1 ?_ | refine Qab Tryz.call122 (c6) [(17,0)] ex1 ?_ | refine Qab Tryz.call123 (c7) [(17,0)] ex1 ?_ | exact re0 []
      refine Qau (α:={j:Nat // j≤n}) ⟨j+1,hlt⟩ ⟨?_,by (try dsimp only);omega⟩
      (try dsimp only)
      rw [hsu]
      refine sx_ ?_
      rw [List.map_append]
      rfl
     ·rw [decide_eq_false hv] at hsu
      have hv2:¬(v2:Int)=1:=by omega
      repeat' first | refine sp_ ?_ | exact ex0 | refine Qab Tryz.call126 (c3) [(17,0)] ex1 ?_ | refine Qab Tryz.call122 (c4) [(17,0)] ex1 ?_ | refine Qab Tryz.call122 (c6) [(17,0)] ex1 ?_ | refine Qab Tryz.call123 (c7) [(17,0)] ex1 ?_ | exact re0 []
      refine Qau (α:={j:Nat // j≤n}) ⟨j+1,hlt⟩ ⟨?_,by (try dsimp only);omega⟩
      (try dsimp only)
      rw [hsu]
      refine sx_ ?_
      rw [List.map_append]
      rfl
    ·obtain rfl:j=n:=by omega
     by_cases hq:(qf,qk,qs)=(2,211,b)
     ·rw [if_pos hq] at hE
      subst hE
      rw [if_pos rfl] at hR
      subst hR
      simp only [Prod.mk.injEq] at hq
      rw [decide_eq_true hq] at hcm
      by_cases hleft:(4:Int)≤((b.length-(4+4 * j):Nat):Int)
      ·obtain rfl:j=15:=by omega
       repeat' first | refine sp_ ?_ | exact ex0 | refine Qab Tryz.call126 (c3) [(17,0)] ex1 ?_ | refine Qab Tryz.call97 (c5) [] ex1 ?_ | exact re0 []
       refine Qcn _ _ _ (.inr rfl) ex0 ex0 (by kernel_rfl) hcm ?_
       repeat' first | refine sp_ ?_ | exact ex0 | exact re0 []
      ·repeat' first | refine sp_ ?_ | exact ex0 | refine Qab Tryz.call126 (c3) [(17,0)] ex1 ?_ | refine Qab Tryz.call97 (c5) [] ex1 ?_ | exact re0 []
       refine Qcn _ _ _ (.inr rfl) ex0 ex0 (by kernel_rfl) hcm ?_
       repeat' first | refine sp_ ?_ | exact ex0 | exact re0 []
     ·rw [if_neg hq] at hE
      subst hE
      rw [if_neg (by decide)] at hR
      subst hR
      simp only [Prod.mk.injEq] at hq
      rw [decide_eq_false hq] at hcm
      by_cases hleft:(4:Int)≤((b.length-(4+4 * j):Nat):Int)
      ·obtain rfl:j=15:=by omega
       repeat' first | refine sp_ ?_ | exact ex0 | refine Qab Tryz.call126 (c3) [(17,0)] ex1 ?_ | refine Qab Tryz.call97 (c5) [] ex1 ?_ | exact re0 []
       refine Qcn _ _ _ (.inr rfl) ex0 ex0 (by kernel_rfl) hcm ?_
       repeat' first | refine sp_ ?_ | exact ex0 | exact re0 []
      ·repeat' first | refine sp_ ?_ | exact ex0 | refine Qab Tryz.call126 (c3) [(17,0)] ex1 ?_ | refine Qab Tryz.call97 (c5) [] ex1 ?_ | exact re0 []
       refine Qcn _ _ _ (.inr rfl) ex0 ex0 (by kernel_rfl) hcm ?_
       repeat' first | refine sp_ ?_ | exact ex0 | exact re0 []
  ·rw [if_pos (.inr hf)] at hE
   subst hE
   rw [if_neg (by decide)] at hR
   subst hR
   refine Qaa Tryz.func233 rfl Tryz.ntmps233 Tryz.results233 ⟨by decide,by simp⟩ fun C hC=>?_
   repeat' first | refine sp_ ?_ | exact ex0 | exact re0 []
 ·rw [if_pos (.inl hk)] at hE
  subst hE
  rw [if_neg (by decide)] at hR
  subst hR
  refine Qaa Tryz.func233 rfl Tryz.ntmps233 Tryz.results233 ⟨by decide,by simp⟩ fun C hC=>?_
  repeat' first | refine sp_ ?_ | exact ex0 | exact re0 []
end Go.Proofs.YthfocmakkeonoaaGreatDoor
