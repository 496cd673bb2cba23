/- Package rtp: may, Check, Pack. Package rtp: Pack. Package rtp: unpad. -/
import Derived.Test.YthfocmakkeonoaaGreatDoorShelfz
import Derived.Test.YthfocmakkeonoaaGreatDoorShelfz
import Derived.Test.YthfocmakkeonoaaGreatDoorRLz
import Derived.Test.YthfocmakkeonoaaGreatDoorRLz
import Derived.Lib.TrimByte
set_option linter.unusedVariables false
set_option linter.unusedSimpArgs false
set_option maxRecDepth 100000
set_option maxHeartbeats 16000000
namespace Go.Proofs.YthfocmakkeonoaaGreatDoor
open Go.RowKit
abbrev h4L (p:P4):List V:=[vb p.marker,vi p.kind,vh p.seq,vu p.time,vu p.src,.lst 1 (p.others.map QdJ),vb p.hasExt,vi p.profile,vs p.ext]
abbrev p4L (p:P4):List V:=[vb p.marker,vi p.kind,vh p.seq,vu p.time,vu p.src,.lst 1 (p.others.map QdJ),vb p.hasExt,vi p.profile,vs p.ext,vs p.data,vi p.pad]
def QiD (k:Nat):List UInt8:=List.replicate k 0
theorem Qf1 (k:Nat):(QiD k).length=k:=List.length_replicate ..
theorem QCv (c:Nat) (hc:c≤1000):Qan Tryz.prog 57 [.ca (.val (vs [0])),.ca (.val (vi c))] [] (.ca (.val (vs (QiD c)))) []:=by
 have e:Lib.repeatL [0] c=QiD c:=by
  induction c with
  | zero=>rfl
  | succ c ih=>rw [Lib.repeatL,ih (by omega)];rfl
 refine Qkp (us:=[str [0],.int .i64 c]) (u:=str (QiD c)) fun w=>?_
 have:=Tryz.strings_Repeat ⟨#[0]⟩ c w (by omega) (by show 1 * c≤_;omega)
 rw [show ((⟨#[0]⟩:ByteArray).data.toList)=[0] from rfl,e] at this
 exact this
theorem QgG (n m:Int):Qan Tryz.prog 114 [.ca (.val (vi n)),.ca (.val (vi m))] [] (.ca (.val (vb (decide (0≤n∧n≤m))))) []:=by
 by_cases h1:0≤n
 ·by_cases h2:n≤m
  ·rw [decide_eq_true ⟨h1,h2⟩]
   refine Qaa Tryz.func114 rfl Tryz.ntmps114 Tryz.results114 ⟨by decide,by simp⟩ fun C hC=>?_
   repeat first | refine sp_ ?_ | exact ex0
   exact re0 []
  ·rw [decide_eq_false (fun h=>h2 h.2)]
   refine Qaa Tryz.func114 rfl Tryz.ntmps114 Tryz.results114 ⟨by decide,by simp⟩ fun C hC=>?_
   repeat first | refine sp_ ?_ | exact ex0
   exact re0 []
 ·rw [decide_eq_false (fun h=>h1 h.1)]
  refine Qaa Tryz.func114 rfl Tryz.ntmps114 Tryz.results114 ⟨by decide,by simp⟩ fun C hC=>?_
  repeat first | refine sp_ ?_ | exact ex0
  exact re0 []
def QA6 (p:P4):Bool:=decide ((0≤p.kind∧p.kind≤127)∧p.others.length≤15∧(0≤p.profile∧p.profile≤65535)∧(if p.hasExt=true then p.ext.length % 4=0∧p.ext.length≤262140 else p.profile=0∧p.ext=[]))
theorem QzJ (p:P4) (hl:p.ext.length≤maxLen):Qan Tryz.prog 113 [.ca (.val (.agg (h4L p)))] [] (.ca (.val (vb (QA6 p)))) []:=by
 obtain ⟨mk,kd,sq,tm,sr,os,hx,pf,ex,da,pd⟩:=p
 obtain ⟨M,hM⟩:∃ M,M=QA6 ⟨mk,kd,sq,tm,sr,os,hx,pf,ex,da,pd⟩:=⟨_,rfl⟩
 rw [←hM]
 unfold QA6 at hM
 unfold maxLen at hl
 dsimp only at hM hl ⊢
 have w1:=QgG kd 127
 have w2:=QgG pf 65535
 refine Qaa Tryz.func113 rfl Tryz.ntmps113 Tryz.results113 ⟨by decide,by simp⟩ fun C hC=>?_
 (repeat ((fail_if_success (refine Qat 1 ?_));(first | refine sp_ ?_ | exact ex0)))
 refine Qil (α:={_x:Unit // M=decide ((0≤kd∧kd≤127)∧os.length≤15∧(0≤pf∧pf≤65535)∧ex.length % 4=0∧ex.length≤262140)}) (fun _=>[(.s 1,.av (.ptr (1,0) 0 0)),(.o (1,0),.num 9),(.c (1,0) 1,.av (.val (vi kd))),(.c (1,0) 5,.av (.val (.lst 1 (os.map QdJ)))),(.c (1,0) 7,.av (.val (vi pf))),(.c (1,0) 8,.av (.val (vs ex))),(.s 2,.av (.val (vb false)))]) ?_ (fun x=>?_)
 ·cases hx with
  | true=>
   have hM2:M=decide ((0≤kd∧kd≤127)∧os.length≤15∧(0≤pf∧pf≤65535)∧ex.length % 4=0∧ex.length≤262140):=by
    rw [hM]
    exact decide_eq_decide.2 (by simp)
   repeat first | refine sp_ ?_ | exact ex0
   refine Qby ⟨(),hM2⟩ ?_
   exact ex0
  | false=>
   by_cases g1:pf=0
   ·by_cases g2:ex=[]
    ·have hM2:M=decide ((0≤kd∧kd≤127)∧os.length≤15∧(0≤pf∧pf≤65535)∧ex.length % 4=0∧ex.length≤262140):=by
      rw [hM,g2]
      simp [g1]
     have hb:(ex == [])=true:=by simpa using g2
     repeat first | refine sp_ ?_ | exact ex0
     simp only [hb]
     repeat first | refine sp_ ?_ | exact ex0
     refine Qby ⟨(),hM2⟩ ?_
     exact ex0
    ·have hM2:M=false:=by rw [hM];simp [g2]
     subst hM2
     have hb:(ex == [])=false:=by simpa using g2
     repeat first | refine sp_ ?_ | exact ex0
     simp only [hb]
     repeat first | refine sp_ ?_ | exact ex0
     exact re0 []
   ·have hM2:M=false:=by rw [hM];simp [g1]
    subst hM2
    repeat first | refine sp_ ?_ | exact ex0
    exact re0 []
 ·obtain ⟨_,hx2⟩:=x
  clear hM
  by_cases g1:0≤kd∧kd≤127
  ·rw [decide_eq_true g1] at w1
   by_cases g2:os.length≤15
   ·by_cases g3:0≤pf∧pf≤65535
    ·rw [decide_eq_true g3] at w2
     by_cases g4:ex.length % 4=0
     ·have g4':(ex.length:Int) % 4=0:=by omega
      by_cases g5:ex.length≤262140
      ·rw [decide_eq_true ⟨g1,g2,g3,g4,g5⟩] at hx2
       subst hx2
       repeat first | refine sp_ ?_ | exact ex0
       refine Qac Tryz.call114 w1 [] ?_
       repeat first | refine sp_ ?_ | exact ex0
       refine Qbt Tryz.call114 w2 [] ?_
       repeat first | refine sp_ ?_ | exact ex0
       exact re0 []
      ·rw [decide_eq_false (fun h=>g5 h.2.2.2.2)] at hx2
       subst hx2
       repeat first | refine sp_ ?_ | exact ex0
       refine Qac Tryz.call114 w1 [] ?_
       repeat first | refine sp_ ?_ | exact ex0
       refine Qbt Tryz.call114 w2 [] ?_
       repeat first | refine sp_ ?_ | exact ex0
       exact re0 []
     ·have g4':(ex.length:Int) % 4≠0:=by omega
      rw [decide_eq_false (fun h=>g4 h.2.2.2.1)] at hx2
      subst hx2
      repeat first | refine sp_ ?_ | exact ex0
      refine Qac Tryz.call114 w1 [] ?_
      repeat first | refine sp_ ?_ | exact ex0
      refine Qbt Tryz.call114 w2 [] ?_
      repeat first | refine sp_ ?_ | exact ex0
      exact re0 []
    ·rw [decide_eq_false g3] at w2
     rw [decide_eq_false (fun h=>g3 h.2.2.1)] at hx2
     subst hx2
     repeat first | refine sp_ ?_ | exact ex0
     refine Qac Tryz.call114 w1 [] ?_
     repeat first | refine sp_ ?_ | exact ex0
     refine Qbt Tryz.call114 w2 [] ?_
     repeat first | refine sp_ ?_ | exact ex0
     exact re0 []
   ·rw [decide_eq_false (fun h=>g2 h.2.1)] at hx2
    subst hx2
    repeat first | refine sp_ ?_ | exact ex0
    refine Qac Tryz.call114 w1 [] ?_
    repeat first | refine sp_ ?_ | exact ex0
    exact re0 []
  ·rw [decide_eq_false g1] at w1
   rw [decide_eq_false (fun h=>g1 h.1)] at hx2
   subst hx2
   repeat first | refine sp_ ?_ | exact ex0
   refine Qac Tryz.call114 w1 [] ?_
   repeat first | refine sp_ ?_ | exact ex0
   exact re0 []
def QlS (p:P4):Int:=128+p.others.length+(if p.hasExt=true then 16 else 0)
theorem Qtd (p:P4) (hl:p.others.length≤15):Qan Tryz.prog 56 [.ca (.val (.agg (h4L p)))] [] (.ca (.val (vi (QlS p)))) []:=by
 obtain ⟨mk,kd,sq,tm,sr,os,hx,pf,ex,da,pd⟩:=p
 unfold QlS
 dsimp only at *
 have b1:bits .or .i64 128 (os.length:Int)=128+os.length:=Qhp 5 _ _ (by omega) (by omega) (by omega) (by omega) (by omega) (by omega)
 have b2:=Qwr os.length (by omega)
 cases hx with
 | true=>
  rw [if_pos rfl]
  refine Qaa Tryz.func56 rfl Tryz.ntmps56 Tryz.results56 ⟨by decide,by simp⟩ fun C hC=>?_
  repeat first | refine sp_ ?_ | exact ex0
  (refine Qap [] ?_;simp (decide:=true) (disch:=omega) only [go_sem,↓reduceIte,↓Qad])
  rw [b1,b2]
 | false=>
  rw [if_neg (by decide)]
  refine Qaa Tryz.func56 rfl Tryz.ntmps56 Tryz.results56 ⟨by decide,by simp⟩ fun C hC=>?_
  repeat first | refine sp_ ?_ | exact ex0
  (refine Qap [] ?_;simp (decide:=true) (disch:=omega) only [go_sem,↓reduceIte,↓Qad])
  rw [b1];simp
theorem Qqc (p:P4) (hl:0≤p.kind∧p.kind≤127):Qan Tryz.prog 58 [.ca (.val (.agg (h4L p)))] [] (.ca (.val (vi (QbQ p)))) []:=by
 obtain ⟨mk,kd,sq,tm,sr,os,hx,pf,ex,da,pd⟩:=p
 unfold QbQ
 dsimp only at *
 have b1:=Qta kd.toNat (by omega)
 have b2:((kd.toNat:Nat):Int)=kd:=by omega
 rw [b2] at b1
 cases mk with
 | true=>
  rw [if_pos rfl]
  refine Qaa Tryz.func58 rfl Tryz.ntmps58 Tryz.results58 ⟨by decide,by simp⟩ fun C hC=>?_
  repeat first | refine sp_ ?_ | exact ex0
  (refine Qap [] ?_;simp (decide:=true) (disch:=omega) only [go_sem,↓reduceIte,↓Qad])
  exact b1
 | false=>
  rw [if_neg (by decide)]
  refine Qaa Tryz.func58 rfl Tryz.ntmps58 Tryz.results58 ⟨by decide,by simp⟩ fun C hC=>?_
  repeat first | refine sp_ ?_ | exact ex0
  (refine Qap [] ?_;simp (decide:=true) (disch:=omega) only [go_sem,↓reduceIte,↓Qad])
  try simp
theorem Qte (p:P4) (hl:p.ext.length≤maxLen):Qan Tryz.prog 55 [.ca (.val (.agg (p4L p)))] [] (.ca (.val (vi (if Qoy p=true then 0 else 6)))) []:=by
 have c1:=QzJ p hl
 have c2:=QgG p.pad 255
 have hm:Qoy p=(QA6 p && decide (0≤p.pad∧p.pad≤255)):=by
  unfold Qoy QA6
  rw [←Bool.decide_and]
  congr 1
  apply propext
  constructor
  ·rintro ⟨a,b,c,d,e⟩;exact ⟨⟨a,b,c,e⟩,d⟩
  ·rintro ⟨⟨a,b,c,e⟩,d⟩;exact ⟨a,b,c,d,e⟩
 rw [hm]
 generalize QA6 p=M at *
 clear hm
 obtain ⟨mk,kd,sq,tm,sr,os,hx,pf,ex,da,pd⟩:=p
 dsimp only at *
 cases M with
 | false=>
  rw [Bool.false_and,if_neg (by decide)]
  refine Qaa Tryz.func55 rfl Tryz.ntmps55 Tryz.results55 ⟨by decide,by simp⟩ fun C hC=>?_
  repeat first | refine sp_ ?_ | exact ex0
  refine Qac Tryz.call113 c1 [] ?_
  repeat first | refine sp_ ?_ | exact ex0
  exact re0 []
 | true=>
  rw [Bool.true_and]
  by_cases h:0≤pd∧pd≤255
  ·rw [decide_eq_true h] at c2 ⊢
   rw [if_pos rfl]
   refine Qaa Tryz.func55 rfl Tryz.ntmps55 Tryz.results55 ⟨by decide,by simp⟩ fun C hC=>?_
   repeat first | refine sp_ ?_ | exact ex0
   refine Qac Tryz.call113 c1 [] ?_
   repeat first | refine sp_ ?_ | exact ex0
   refine Qbt Tryz.call114 c2 [] ?_
   repeat first | refine sp_ ?_ | exact ex0
   exact re0 []
  ·rw [decide_eq_false h] at c2 ⊢
   rw [if_neg (by decide)]
   refine Qaa Tryz.func55 rfl Tryz.ntmps55 Tryz.results55 ⟨by decide,by simp⟩ fun C hC=>?_
   repeat first | refine sp_ ?_ | exact ex0
   refine Qac Tryz.call113 c1 [] ?_
   repeat first | refine sp_ ?_ | exact ex0
   refine Qbt Tryz.call114 c2 [] ?_
   repeat first | refine sp_ ?_ | exact ex0
   exact re0 []
end Go.Proofs.YthfocmakkeonoaaGreatDoor
namespace Go.Proofs.YthfocmakkeonoaaGreatDoor
open Go.RowKit
theorem Qtf {P:Program} {C:Ctx} {σ:St} {Q:Exit→St→Prop} {c:Code} (L:List (Pl × X)) (hx:Qkk σ L) (h:AW P C c (Qja L) Q):AW P C c σ Q:=QmJ L (Qez hx) h
theorem Qww (n:Nat) (h:n<255):QbD ((n:Int)+1)=QiD n++[UInt8.ofNat (n+1)]:=by
 unfold QbD
 rw [if_pos (by omega),show (((n:Int)+1-1).toNat)=n by omega]
 congr 1
 have:=Qcj (n+1) (by omega)
 exact this
theorem Qwx (p:P4) (ho:p.Ok) (hl1:p.ext.length≤maxLen) (hl2:p.data.length≤1099511627776):Qan Tryz.prog 24 [.ca (.val (.agg (p4L p)))] [] (.ca (.val (vs (Qnc p)))) []:=by
 have c0:=Qte p hl1
 cases hm:Qoy p with
 | false=>
  have e:Qnc p=[]:=by unfold Qnc;rw [hm];rfl
  rw [hm,if_neg (by decide)] at c0
  rw [e]
  clear hm e
  obtain ⟨mk,kd,sq,tm,sr,os,hx,pf,ex,da,pd⟩:=p
  refine Qaa Tryz.func24 rfl Tryz.ntmps24 Tryz.results24 ⟨by decide,by simp⟩ fun C hC=>?_
  repeat first | refine sp_ ?_ | exact ex0
  refine Qac Tryz.call55 c0 [] ?_
  repeat first | refine sp_ ?_ | exact ex0
  exact re0 []
 | true=>
  rw [hm,if_pos rfl] at c0
  have e:Qnc p=QeP p:=by unfold Qnc;rw [if_pos hm]
  have hmm:=(QdK p).1 hm
  rw [e]
  clear e hm
  obtain ⟨mk,kd,sq,tm,sr,os,hx,pf,ex,da,pd⟩:=p
  obtain ⟨o1,o2,o3,o4⟩:=ho
  dsimp only at hmm o1 o2 o3 o4 hl1 hl2
  obtain ⟨m1,m2,m3,m4,m5⟩:=hmm
  have hexl:ex.length≤262140:=by
   cases hx with
   | true=>rw [if_pos rfl] at m5;exact m5.2
   | false=>rw [if_neg (by decide)] at m5;rw [m5.2];simp
  have hfe:Qc7 ⟨mk,kd,sq,tm,sr,os,hx,pf,ex,da,pd⟩=QlS ⟨mk,kd,sq,tm,sr,os,hx,pf,ex,da,pd⟩+(if 0<pd then 32 else 0):=rfl
  have c1:=Qtd ⟨mk,kd,sq,tm,sr,os,hx,pf,ex,da,pd⟩ m2
  have c2:=Qqc ⟨mk,kd,sq,tm,sr,os,hx,pf,ex,da,pd⟩ m1
  have hf0:∃ n:Nat,n<32∧QlS ⟨mk,kd,sq,tm,sr,os,hx,pf,ex,da,pd⟩=128+n:=by
   unfold QlS
   dsimp only
   cases hx
   ·exact ⟨os.length,by omega,by simp⟩
   ·exact ⟨os.length+16,by omega,by simp;omega⟩
  obtain ⟨nf,hnf,hf0⟩:=hf0
  have bo:=Qws nf hnf
  obtain ⟨F,hF⟩:∃ F,F=Qc7 ⟨mk,kd,sq,tm,sr,os,hx,pf,ex,da,pd⟩:=⟨_,rfl⟩
  obtain ⟨G,hG⟩:∃ G,G=QbQ ⟨mk,kd,sq,tm,sr,os,hx,pf,ex,da,pd⟩:=⟨_,rfl⟩
  have hbody:QeP ⟨mk,kd,sq,tm,sr,os,hx,pf,ex,da,pd⟩=Qah 1 [F,G]++Qah 2 [sq]++Qah 4 [tm,sr]++Qah 4 os++QjJ ⟨mk,kd,sq,tm,sr,os,hx,pf,ex,da,pd⟩++da++QbD pd:=by rw [hF,hG];rfl
  rw [hbody]
  rw [←hF,hf0] at hfe
  rw [←hG] at c2
  rw [hf0] at c1
  clear hbody hF hG hf0
  refine Qaa Tryz.func24 rfl Tryz.ntmps24 Tryz.results24 ⟨by decide,by simp⟩ fun C hC=>?_
  repeat first | refine sp_ ?_ | exact ex0
  refine Qac Tryz.call55 c0 [] ?_
  repeat first | refine sp_ ?_ | exact ex0
  refine Qac Tryz.call56 c1 [] ?_
  (repeat ((fail_if_success (refine Qat 4 ?_));(first | refine sp_ ?_ | exact ex0)))
  refine Qil (α:={_x:Unit // True}) (fun _=>[(.s 1,.av (.ptr (1,0) 0 0)),(.o (1,0),.num 11),(.c (1,0) 0,.av (.val (vb mk))),(.c (1,0) 1,.av (.val (vi kd))),(.c (1,0) 2,.av (.val (vh sq))),(.c (1,0) 3,.av (.val (vu tm))),(.c (1,0) 4,.av (.val (vu sr))),(.c (1,0) 5,.av (.val (.lst 1 (os.map QdJ)))),(.c (1,0) 6,.av (.val (vb hx))),(.c (1,0) 7,.av (.val (vi pf))),(.c (1,0) 8,.av (.val (vs ex))),(.c (1,0) 9,.av (.val (vs da))),(.c (1,0) 10,.av (.val (vi pd))),(.s 2,.av (.val (vs []))),(.s 3,.av (.val (vi F))),(.s 4,.av (.val (vs (QbD pd))))]) ?_ (fun x=>?_)
  ·by_cases hp:0<pd
   ·rw [if_pos hp] at hfe
    obtain ⟨n,rfl⟩:∃ n:Nat,pd=n+1:=⟨(pd-1).toNat,by omega⟩
    have hn:n<255:=by omega
    have hte:=Qww n hn
    have c3:=QCv n (by omega)
    have hz:=Qf1 n
    repeat first | refine sp_ ?_ | exact ex0
    refine Qac Tryz.call57 c3 [] ?_
    repeat first | refine sp_ ?_ | exact ex0
    have hbe:[UInt8.ofNat (n+1)].map QaG=[[V.sc (.int .u8 ((n:Int)+1))]]:=by
     have h1:(UInt8.ofNat (n+1)).toNat=n+1:=UInt8.toNat_ofNat_of_lt' (by show n+1<256;omega)
     show [[V.sc (.int .u8 ((UInt8.ofNat (n+1)).toNat:Int))]]=_
     rw [h1]
     rfl
    refine Qkl [UInt8.ofNat (n+1)] (by rw [hbe];simp (decide:=true) (disch:=omega) only [go_sem,↓reduceIte,↓Qad]) ex0 ex0 ?_
    repeat first | refine sp_ ?_ | exact ex0
    refine Qby ⟨(),trivial⟩ ?_
    rw [hfe,hte]
    refine sx_ ?_
    exact bo
   ·rw [if_neg hp] at hfe
    have hp0:pd=0:=by omega
    have ht:QbD pd=[]:=by rw [hp0];rfl
    repeat first | refine sp_ ?_ | exact ex0
    refine Qby ⟨(),trivial⟩ ?_
    rw [hfe,ht]
    refine sx_ ?_
    try simp
  ·have htl:(QbD pd).length≤255:=by
    unfold QbD
    split
    ·simp only [List.length_append,List.length_replicate,Qaj];omega
    ·simp
   have hz1:=Qai 1 [F,G]
   have hz2:=Qai 2 [sq]
   have hz3:=Qai 4 [tm,sr]
   have hz4:=Qai 4 os
   simp only [List.length_cons,List.length_nil] at hz1 hz2 hz3 hz4
   have k1:=QdS [] [F,G] (by simp)
   rw [List.nil_append] at k1
   have k2:=Qfi (Qah 1 [F,G]) [sq] (by simp only [List.length_cons,List.length_nil];omega)
   have k3:=Qca (Qah 1 [F,G]++Qah 2 [sq]) [tm,sr] (by simp only [List.length_append,List.length_cons,List.length_nil];omega) (by simpa using ⟨o2,o3⟩)
   have k4:=Qca (Qah 1 [F,G]++Qah 2 [sq]++Qah 4 [tm,sr]) os (by simp only [List.length_append];omega) o4
   obtain ⟨B,hB⟩:∃ B,B=Qah 1 [F,G]++Qah 2 [sq]++Qah 4 [tm,sr]++Qah 4 os:=⟨_,rfl⟩
   rw [←hB] at k4 ⊢
   have hBl:B.length≤72:=by rw [hB];simp only [List.length_append];omega
   clear hB
   repeat first | refine sp_ ?_ | exact ex0
   refine Qac Tryz.call58 c2 [] ?_
   repeat first | refine sp_ ?_ | exact ex0
   refine Qac Tryz.call18 k1 [(5,0)] ?_
   repeat first | refine sp_ ?_ | exact ex0
   refine Qac Tryz.call19 k2 [(5,0)] ?_
   repeat first | refine sp_ ?_ | exact ex0
   refine Qac Tryz.call59 k3 [(5,0)] ?_
   repeat first | refine sp_ ?_ | exact ex0
   refine Qac Tryz.call59 k4 [(5,0)] ?_
   (repeat ((fail_if_success (refine Qat 9 ?_));(first | refine sp_ ?_ | exact ex0)))
   refine Qtf [(.s 1,.av (.ptr (1,0) 0 0)),(.o (1,0),.num 11),(.c (1,0) 0,.av (.val (vb mk))),(.c (1,0) 1,.av (.val (vi kd))),(.c (1,0) 2,.av (.val (vh sq))),(.c (1,0) 3,.av (.val (vu tm))),(.c (1,0) 4,.av (.val (vu sr))),(.c (1,0) 5,.av (.val (.lst 1 (os.map QdJ)))),(.c (1,0) 6,.av (.val (vb hx))),(.c (1,0) 7,.av (.val (vi pf))),(.c (1,0) 8,.av (.val (vs ex))),(.c (1,0) 9,.av (.val (vs da))),(.c (1,0) 10,.av (.val (vi pd))),(.s 2,.av (.val (vs []))),(.s 4,.av (.val (vs (QbD pd)))),(.s 5,.av (.ptr (5,0) 0 0)),(.o (5,0),.num 1),(.c (5,0) 0,.av (.own (5,1) 0 5 1 (B.map QaG))),(.k (5,1),.row 5 1 (B.map QaG).length)] ex0 ?_
   refine Qil (α:={_x:Unit // True}) (fun _=>[(.s 1,.av (.ptr (1,0) 0 0)),(.o (1,0),.num 11),(.c (1,0) 0,.av (.val (vb mk))),(.c (1,0) 1,.av (.val (vi kd))),(.c (1,0) 2,.av (.val (vh sq))),(.c (1,0) 3,.av (.val (vu tm))),(.c (1,0) 4,.av (.val (vu sr))),(.c (1,0) 5,.av (.val (.lst 1 (os.map QdJ)))),(.c (1,0) 6,.av (.val (vb hx))),(.c (1,0) 7,.av (.val (vi pf))),(.c (1,0) 8,.av (.val (vs ex))),(.c (1,0) 9,.av (.val (vs da))),(.c (1,0) 10,.av (.val (vi pd))),(.s 2,.av (.val (vs []))),(.s 4,.av (.val (vs (QbD pd)))),(.s 5,.av (.ptr (5,0) 0 0)),(.o (5,0),.num 1),(.c (5,0) 0,.av (.own (5,1) 0 5 1 ((B++QjJ ⟨mk,kd,sq,tm,sr,os,hx,pf,ex,da,pd⟩).map QaG))),(.k (5,1),.row 5 1 ((B++QjJ ⟨mk,kd,sq,tm,sr,os,hx,pf,ex,da,pd⟩).map QaG).length)]) ?_ (fun x=>?_)
   ·cases hx with
    | true=>
     have e1:QjJ ⟨mk,kd,sq,tm,sr,os,true,pf,ex,da,pd⟩=Qah 2 [pf,((ex.length / 4:Nat):Int)]++ex:=rfl
     have hz5:=Qai 2 [pf,((ex.length / 4:Nat):Int)]
     simp only [List.length_cons,List.length_nil] at hz5
     have k5:=Qfi B [pf,((ex.length / 4:Nat):Int)] (by simp only [List.length_cons,List.length_nil];omega)
     have k6:=Qei (B++Qah 2 [pf,((ex.length / 4:Nat):Int)]) [ex] (by simp only [List.length_append,List.flatten_cons,List.flatten_nil,List.append_nil];omega) (by simp)
     repeat first | refine sp_ ?_ | exact ex0
     refine Qac Tryz.call19 k5 [(5,0)] ?_
     repeat first | refine sp_ ?_ | exact ex0
     refine ⟨by rw [Int.natCast_ediv];rfl,?_⟩
     repeat first | refine sp_ ?_ | exact ex0
     refine Qac Tryz.call60 k6 [(5,0)] ?_
     repeat first | refine sp_ ?_ | exact ex0
     refine Qby ⟨(),trivial⟩ ?_
     rw [e1]
     simp (decide:=true) (disch:=omega) only [go_sem,↓reduceIte,↓Qad]
     all_goals (try simp)
     all_goals (try omega)
    | false=>
     have e1:QjJ ⟨mk,kd,sq,tm,sr,os,false,pf,ex,da,pd⟩=[]:=rfl
     repeat first | refine sp_ ?_ | exact ex0
     refine Qby ⟨(),trivial⟩ ?_
     rw [e1,List.append_nil]
     refine sx_ ?_
     try rfl
   ·have hel:(QjJ ⟨mk,kd,sq,tm,sr,os,hx,pf,ex,da,pd⟩).length≤262144:=by
     unfold QjJ
     split
     ·simp only [List.length_append,Qai,List.length_cons,List.length_nil];omega
     ·simp
    generalize QjJ ⟨mk,kd,sq,tm,sr,os,hx,pf,ex,da,pd⟩=X at *
    have k7:=Qei (B++X) [da,QbD pd] (by simp only [List.length_append,List.flatten_cons,List.flatten_nil,List.append_nil];omega) (by simp)
    have e7:B++X++[da,QbD pd].flatten=B++X++da++QbD pd:=by simp
    rw [e7] at k7
    have k8:=Qa3 (B++X++da++QbD pd) (by simp only [List.length_append];omega)
    repeat first | refine sp_ ?_ | exact ex0
    refine Qac Tryz.call60 k7 [(5,0)] ?_
    repeat first | refine sp_ ?_ | exact ex0
    refine Qac Tryz.call22 k8 [(5,0)] ?_
    repeat first | refine sp_ ?_ | exact ex0
    exact re0 []
end Go.Proofs.YthfocmakkeonoaaGreatDoor
namespace Go.Proofs.YthfocmakkeonoaaGreatDoor
open Go.RowKit
theorem QCw (l:List UInt8) (hl:l.length≤maxLen):Qan Tryz.prog 175 [.ca (.val (vs l)),.ca (.val (vs [0]))] [] (.ca (.val (vs (Lib.trimB l 0)))) []:=by
 refine Qkp (us:=[str l,str [0]]) (u:=str (Lib.trimB l 0)) fun w=>?_
 have:=Tryz.strings_Trim_one ⟨l.toArray⟩ 0 (by decide) w (by have h9:l.length≤9223372036854775807:=hl;simpa using h9)
 refine this.mono ?_
 rintro e w' ⟨he,hw⟩
 refine ⟨he,?_⟩
 rcases hw with rfl | rfl
 ·exact Below.refl _ _
 ·exact (Below.refl _ _).drew
theorem Qjh (l:List UInt8) (h:l.dropWhile (· == 0)=[]):∀ x∈l,x=0:=by
 induction l with
 | nil=>intro x hx;simp at hx
 | cons a l ih=>
  rw [List.dropWhile_cons] at h
  split at h
  ·rename_i ha
   intro x hx
   rcases List.mem_cons.1 hx with rfl | hx
   ·simpa using ha
   ·exact ih h x hx
  ·cases h
theorem Qji (l:List UInt8):∀ x∈l.takeWhile (· == 0),x=0:=by
 induction l with
 | nil=>intro x hx;simp at hx
 | cons a l ih=>
  intro x hx
  rw [List.takeWhile_cons] at hx
  split at hx
  ·rename_i ha
   rcases List.mem_cons.1 hx with rfl | hx
   ·simpa using ha
   ·exact ih x hx
  ·simp at hx
theorem Qoz (l:List UInt8):Lib.trimB l 0=[]↔l=List.replicate l.length 0:=by
 unfold Lib.trimB Lib.trimLeftB Lib.trimRightB
 constructor
 ·intro h
  have h1:=Qjh _ h
  have hall:∀ x∈l,x=0:=by
   intro x hx
   have hx':x∈l.reverse:=List.mem_reverse.2 hx
   rw [←List.takeWhile_append_dropWhile (p:=(· == 0)) (l:=l.reverse)] at hx'
   rcases List.mem_append.1 hx' with g | g
   ·exact Qji _ x g
   ·exact h1 x (List.mem_reverse.2 g)
  exact List.eq_replicate_iff.2 ⟨rfl,hall⟩
 ·intro h
  have hz:∀ n:Nat,(List.replicate n (0:UInt8)).dropWhile (· == 0)=[]:=by
   intro n
   induction n with
   | zero=>rfl
   | succ n ih=>rw [List.replicate_succ,List.dropWhile_cons_of_pos (by rfl)];exact ih
  rw [h,List.reverse_replicate,hz]
  rfl
theorem Qtg (d:List UInt8) (hl:d.length≤maxLen):Qan Tryz.prog 128 [.ca (.val (vs d))] [] (.ca (.val (.tup [vs (if Qco d then [] else d.take (d.length-Qb0 d)),vi (if Qco d then 0 else Qb0 d),vi (if Qco d then 1 else 0)]))) []:=by
 unfold maxLen at hl
 by_cases hd:d=[]
 ·have hbad:Qco d:=.inl hd
  rw [if_pos hbad,if_pos hbad,if_pos hbad]
  have hb:(d == [])=true:=by simpa using hd
  refine Qaa Tryz.func128 rfl Tryz.ntmps128 Tryz.results128 ⟨by decide,by simp⟩ fun C hC=>?_
  repeat first | refine sp_ ?_ | exact ex0
  simp only [hb]
  repeat first | refine sp_ ?_ | exact ex0
  exact re0 []
 have hb:(d == [])=false:=by simpa using hd
 have hd0:0<d.length:=List.length_pos_iff.2 hd
 obtain ⟨n,hn⟩:∃ n,n=Qb0 d:=⟨_,rfl⟩
 have hn2:(d.getD (d.length-1) 0).toNat=n:=hn.symm
 have hn256:n<256:=by rw [hn];exact UInt8.toNat_lt _
 have ei:((d.length:Int)-1).toNat=d.length-1:=by omega
 by_cases h0:n=0
 ·have hbad:Qco d:=.inr (.inl (by omega))
  rw [if_pos hbad,if_pos hbad,if_pos hbad]
  refine Qaa Tryz.func128 rfl Tryz.ntmps128 Tryz.results128 ⟨by decide,by simp⟩ fun C hC=>?_
  repeat first | refine sp_ ?_ | exact ex0
  simp only [hb]
  repeat first | refine sp_ ?_ | exact ex0
  simp only [ei,hn2]
  repeat first | refine sp_ ?_ | exact ex0
  exact re0 []
 by_cases h1:d.length<n
 ·have hbad:Qco d:=.inr (.inr (.inl (by omega)))
  rw [if_pos hbad,if_pos hbad,if_pos hbad]
  refine Qaa Tryz.func128 rfl Tryz.ntmps128 Tryz.results128 ⟨by decide,by simp⟩ fun C hC=>?_
  repeat first | refine sp_ ?_ | exact ex0
  simp only [hb]
  repeat first | refine sp_ ?_ | exact ex0
  simp only [ei,hn2]
  repeat first | refine sp_ ?_ | exact ex0
  exact re0 []
 have en:((d.length:Int)-(n:Int)).toNat=d.length-n:=by omega
 have es:d.length-1-(d.length-n)=n-1:=by omega
 have ct:=QCw ((d.drop (d.length-n)).take (n-1)) (by rw [List.length_take];unfold maxLen;omega)
 have hzl:((d.drop (d.length-n)).take (n-1)).length=n-1:=by rw [List.length_take,List.length_drop];omega
 have htr:=Qoz ((d.drop (d.length-n)).take (n-1))
 rw [hzl] at htr
 generalize hT:Lib.trimB ((d.drop (d.length-n)).take (n-1)) 0=T at *
 by_cases h2:T=[]
 ·have hgood:¬Qco d:=by
   unfold Qco
   rw [←hn]
   rintro (h | h | h | h)
   ·exact hd h
   ·exact h0 h
   ·exact h1 h
   ·exact h (htr.1 h2)
  have hb2:(T == [])=true:=by simpa using h2
  rw [if_neg hgood,if_neg hgood,if_neg hgood,←hn]
  refine Qaa Tryz.func128 rfl Tryz.ntmps128 Tryz.results128 ⟨by decide,by simp⟩ fun C hC=>?_
  repeat first | refine sp_ ?_ | exact ex0
  simp only [hb]
  repeat first | refine sp_ ?_ | exact ex0
  simp only [ei,hn2]
  repeat first | refine sp_ ?_ | exact ex0
  simp only [ei,en,es]
  refine Qbt Tryz.call175 ct [] ?_
  repeat first | refine sp_ ?_ | exact ex0
  simp only [hb2]
  repeat first | refine sp_ ?_ | exact ex0
  (refine Qap [] ?_;simp (decide:=true) (disch:=omega) only [go_sem,↓reduceIte,↓Qad])
  try simp only [en]
 ·have hbad:Qco d:=.inr (.inr (.inr (by rw [←hn];exact fun h=>h2 (htr.2 h))))
  have hb2:(T == [])=false:=by simpa using h2
  rw [if_pos hbad,if_pos hbad,if_pos hbad]
  refine Qaa Tryz.func128 rfl Tryz.ntmps128 Tryz.results128 ⟨by decide,by simp⟩ fun C hC=>?_
  repeat first | refine sp_ ?_ | exact ex0
  simp only [hb]
  repeat first | refine sp_ ?_ | exact ex0
  simp only [ei,hn2]
  repeat first | refine sp_ ?_ | exact ex0
  simp only [ei,en,es]
  refine Qbt Tryz.call175 ct [] ?_
  repeat first | refine sp_ ?_ | exact ex0
  simp only [hb2]
  repeat first | refine sp_ ?_ | exact ex0
  exact re0 []
end Go.Proofs.YthfocmakkeonoaaGreatDoor
