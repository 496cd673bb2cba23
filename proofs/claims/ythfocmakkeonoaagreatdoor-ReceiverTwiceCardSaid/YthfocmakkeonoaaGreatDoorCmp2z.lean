/- Layer 12 (compound): what a piece says; walked. -/
import Derived.Test.YthfocmakkeonoaaGreatDoorCmpMz
import Derived.Test.YthfocmakkeonoaaGreatDoorSub2z
import Derived.Test.YthfocmakkeonoaaGreatDoorRLz
set_option linter.unusedVariables false
set_option linter.unusedSimpArgs false
set_option maxRecDepth 100000
set_option maxHeartbeats 16000000
namespace Go.Proofs.YthfocmakkeonoaaGreatDoor
open Go.RowKit
def QhF (r:R8):List V:=r8L r
def QhG (r:Y9):List V:=y9L r
def QhH (r:A9):List V:=a9L r
def QcM (r:N10):List V:=Qut r
def QcN (r:R11):List V:=Qu8 r
def QcO (r:S11):List V:=Qu9 r
attribute [go_sem] QhF QhG QhH QcM QcN QcO
abbrev orV (t:TypeId) (y:V) (e:Int):V:=if e=0 then .ifc t y else .sc .nilIface
theorem QGs (x:R8) (e:Int):Qan Tryz.prog 220 [.ca (.val (.agg (r8L x))),.ca (.val (vi e))] [] (.ca (.val (orV 122 (.agg (r8L x)) e))) []:=by
 by_cases h:e=0
 ·rw [show orV 122 _ e=.ifc 122 _ from if_pos h]
  refine Qaa Tryz.func220 rfl Tryz.ntmps220 Tryz.results220 ⟨by decide,by simp⟩ fun C hC=>?_
  repeat' first | refine sp_ ?_ | exact ex0 | (simp (maxSteps:=2000000) (decide:=true) (disch:=omega) only [go_sem,↓reduceIte,↓Qad]) | (refine Qap [] ?_;simp (maxSteps:=2000000) (decide:=true) (disch:=omega) only [go_sem,↓reduceIte,↓Qad])
  refine Qfd (by kernel_rfl) ?_
  repeat' first | refine sp_ ?_ | exact ex0 | (simp (maxSteps:=2000000) (decide:=true) (disch:=omega) only [go_sem,↓reduceIte,↓Qad]) | (refine Qap [] ?_;simp (maxSteps:=2000000) (decide:=true) (disch:=omega) only [go_sem,↓reduceIte,↓Qad])
 ·rw [show orV 122 _ e=.sc .nilIface from if_neg h]
  refine Qaa Tryz.func220 rfl Tryz.ntmps220 Tryz.results220 ⟨by decide,by simp⟩ fun C hC=>?_
  repeat' first | refine sp_ ?_ | exact ex0 | (simp (maxSteps:=2000000) (decide:=true) (disch:=omega) only [go_sem,↓reduceIte,↓Qad]) | (refine Qap [] ?_;simp (maxSteps:=2000000) (decide:=true) (disch:=omega) only [go_sem,↓reduceIte,↓Qad])
theorem QGt (sz:Nat) (ys:List (List V)) (e:Int):Qan Tryz.prog 222 [.ca (.val (.lst sz ys)),.ca (.val (vi e))] [] (.ca (.val (orV 188 (.lst sz ys) e))) []:=by
 by_cases h:e=0
 ·rw [show orV 188 _ e=.ifc 188 _ from if_pos h]
  refine Qaa Tryz.func222 rfl Tryz.ntmps222 Tryz.results222 ⟨by decide,by simp⟩ fun C hC=>?_
  repeat' first | refine sp_ ?_ | exact ex0 | (simp (maxSteps:=2000000) (decide:=true) (disch:=omega) only [go_sem,↓reduceIte,↓Qad]) | (refine Qap [] ?_;simp (maxSteps:=2000000) (decide:=true) (disch:=omega) only [go_sem,↓reduceIte,↓Qad])
  refine Qfd (by kernel_rfl) ?_
  repeat' first | refine sp_ ?_ | exact ex0 | (simp (maxSteps:=2000000) (decide:=true) (disch:=omega) only [go_sem,↓reduceIte,↓Qad]) | (refine Qap [] ?_;simp (maxSteps:=2000000) (decide:=true) (disch:=omega) only [go_sem,↓reduceIte,↓Qad])
 ·rw [show orV 188 _ e=.sc .nilIface from if_neg h]
  refine Qaa Tryz.func222 rfl Tryz.ntmps222 Tryz.results222 ⟨by decide,by simp⟩ fun C hC=>?_
  repeat' first | refine sp_ ?_ | exact ex0 | (simp (maxSteps:=2000000) (decide:=true) (disch:=omega) only [go_sem,↓reduceIte,↓Qad]) | (refine Qap [] ?_;simp (maxSteps:=2000000) (decide:=true) (disch:=omega) only [go_sem,↓reduceIte,↓Qad])
theorem QGu (x:Y9) (e:Int):Qan Tryz.prog 224 [.ca (.val (.agg (y9L x))),.ca (.val (vi e))] [] (.ca (.val (orV 319 (.agg (y9L x)) e))) []:=by
 by_cases h:e=0
 ·rw [show orV 319 _ e=.ifc 319 _ from if_pos h]
  refine Qaa Tryz.func224 rfl Tryz.ntmps224 Tryz.results224 ⟨by decide,by simp⟩ fun C hC=>?_
  repeat' first | refine sp_ ?_ | exact ex0 | (simp (maxSteps:=2000000) (decide:=true) (disch:=omega) only [go_sem,↓reduceIte,↓Qad]) | (refine Qap [] ?_;simp (maxSteps:=2000000) (decide:=true) (disch:=omega) only [go_sem,↓reduceIte,↓Qad])
  refine Qfd (by kernel_rfl) ?_
  repeat' first | refine sp_ ?_ | exact ex0 | (simp (maxSteps:=2000000) (decide:=true) (disch:=omega) only [go_sem,↓reduceIte,↓Qad]) | (refine Qap [] ?_;simp (maxSteps:=2000000) (decide:=true) (disch:=omega) only [go_sem,↓reduceIte,↓Qad])
 ·rw [show orV 319 _ e=.sc .nilIface from if_neg h]
  refine Qaa Tryz.func224 rfl Tryz.ntmps224 Tryz.results224 ⟨by decide,by simp⟩ fun C hC=>?_
  repeat' first | refine sp_ ?_ | exact ex0 | (simp (maxSteps:=2000000) (decide:=true) (disch:=omega) only [go_sem,↓reduceIte,↓Qad]) | (refine Qap [] ?_;simp (maxSteps:=2000000) (decide:=true) (disch:=omega) only [go_sem,↓reduceIte,↓Qad])
theorem QGv (x:A9) (e:Int):Qan Tryz.prog 226 [.ca (.val (.agg (a9L x))),.ca (.val (vi e))] [] (.ca (.val (orV 208 (.agg (a9L x)) e))) []:=by
 by_cases h:e=0
 ·rw [show orV 208 _ e=.ifc 208 _ from if_pos h]
  refine Qaa Tryz.func226 rfl Tryz.ntmps226 Tryz.results226 ⟨by decide,by simp⟩ fun C hC=>?_
  repeat' first | refine sp_ ?_ | exact ex0 | (simp (maxSteps:=2000000) (decide:=true) (disch:=omega) only [go_sem,↓reduceIte,↓Qad]) | (refine Qap [] ?_;simp (maxSteps:=2000000) (decide:=true) (disch:=omega) only [go_sem,↓reduceIte,↓Qad])
  refine Qfd (by kernel_rfl) ?_
  repeat' first | refine sp_ ?_ | exact ex0 | (simp (maxSteps:=2000000) (decide:=true) (disch:=omega) only [go_sem,↓reduceIte,↓Qad]) | (refine Qap [] ?_;simp (maxSteps:=2000000) (decide:=true) (disch:=omega) only [go_sem,↓reduceIte,↓Qad])
 ·rw [show orV 208 _ e=.sc .nilIface from if_neg h]
  refine Qaa Tryz.func226 rfl Tryz.ntmps226 Tryz.results226 ⟨by decide,by simp⟩ fun C hC=>?_
  repeat' first | refine sp_ ?_ | exact ex0 | (simp (maxSteps:=2000000) (decide:=true) (disch:=omega) only [go_sem,↓reduceIte,↓Qad]) | (refine Qap [] ?_;simp (maxSteps:=2000000) (decide:=true) (disch:=omega) only [go_sem,↓reduceIte,↓Qad])
theorem QGw (x:N10) (e:Int):Qan Tryz.prog 228 [.ca (.val (.agg (Qut x))),.ca (.val (vi e))] [] (.ca (.val (orV 214 (.agg (Qut x)) e))) []:=by
 by_cases h:e=0
 ·rw [show orV 214 _ e=.ifc 214 _ from if_pos h]
  refine Qaa Tryz.func228 rfl Tryz.ntmps228 Tryz.results228 ⟨by decide,by simp⟩ fun C hC=>?_
  repeat' first | refine sp_ ?_ | exact ex0 | (simp (maxSteps:=2000000) (decide:=true) (disch:=omega) only [go_sem,↓reduceIte,↓Qad]) | (refine Qap [] ?_;simp (maxSteps:=2000000) (decide:=true) (disch:=omega) only [go_sem,↓reduceIte,↓Qad])
  refine Qfd (by kernel_rfl) ?_
  repeat' first | refine sp_ ?_ | exact ex0 | (simp (maxSteps:=2000000) (decide:=true) (disch:=omega) only [go_sem,↓reduceIte,↓Qad]) | (refine Qap [] ?_;simp (maxSteps:=2000000) (decide:=true) (disch:=omega) only [go_sem,↓reduceIte,↓Qad])
 ·rw [show orV 214 _ e=.sc .nilIface from if_neg h]
  refine Qaa Tryz.func228 rfl Tryz.ntmps228 Tryz.results228 ⟨by decide,by simp⟩ fun C hC=>?_
  repeat' first | refine sp_ ?_ | exact ex0 | (simp (maxSteps:=2000000) (decide:=true) (disch:=omega) only [go_sem,↓reduceIte,↓Qad]) | (refine Qap [] ?_;simp (maxSteps:=2000000) (decide:=true) (disch:=omega) only [go_sem,↓reduceIte,↓Qad])
theorem QGx (x:R11) (e:Int):Qan Tryz.prog 230 [.ca (.val (.agg (Qu8 x))),.ca (.val (vi e))] [] (.ca (.val (orV 192 (.agg (Qu8 x)) e))) []:=by
 by_cases h:e=0
 ·rw [show orV 192 _ e=.ifc 192 _ from if_pos h]
  refine Qaa Tryz.func230 rfl Tryz.ntmps230 Tryz.results230 ⟨by decide,by simp⟩ fun C hC=>?_
  repeat' first | refine sp_ ?_ | exact ex0 | (simp (maxSteps:=2000000) (decide:=true) (disch:=omega) only [go_sem,↓reduceIte,↓Qad]) | (refine Qap [] ?_;simp (maxSteps:=2000000) (decide:=true) (disch:=omega) only [go_sem,↓reduceIte,↓Qad])
  refine Qfd (by kernel_rfl) ?_
  repeat' first | refine sp_ ?_ | exact ex0 | (simp (maxSteps:=2000000) (decide:=true) (disch:=omega) only [go_sem,↓reduceIte,↓Qad]) | (refine Qap [] ?_;simp (maxSteps:=2000000) (decide:=true) (disch:=omega) only [go_sem,↓reduceIte,↓Qad])
 ·rw [show orV 192 _ e=.sc .nilIface from if_neg h]
  refine Qaa Tryz.func230 rfl Tryz.ntmps230 Tryz.results230 ⟨by decide,by simp⟩ fun C hC=>?_
  repeat' first | refine sp_ ?_ | exact ex0 | (simp (maxSteps:=2000000) (decide:=true) (disch:=omega) only [go_sem,↓reduceIte,↓Qad]) | (refine Qap [] ?_;simp (maxSteps:=2000000) (decide:=true) (disch:=omega) only [go_sem,↓reduceIte,↓Qad])
theorem QGy (x:S11) (e:Int):Qan Tryz.prog 232 [.ca (.val (.agg (Qu9 x))),.ca (.val (vi e))] [] (.ca (.val (orV 204 (.agg (Qu9 x)) e))) []:=by
 by_cases h:e=0
 ·rw [show orV 204 _ e=.ifc 204 _ from if_pos h]
  refine Qaa Tryz.func232 rfl Tryz.ntmps232 Tryz.results232 ⟨by decide,by simp⟩ fun C hC=>?_
  repeat' first | refine sp_ ?_ | exact ex0 | (simp (maxSteps:=2000000) (decide:=true) (disch:=omega) only [go_sem,↓reduceIte,↓Qad]) | (refine Qap [] ?_;simp (maxSteps:=2000000) (decide:=true) (disch:=omega) only [go_sem,↓reduceIte,↓Qad])
  refine Qfd (by kernel_rfl) ?_
  repeat' first | refine sp_ ?_ | exact ex0 | (simp (maxSteps:=2000000) (decide:=true) (disch:=omega) only [go_sem,↓reduceIte,↓Qad]) | (refine Qap [] ?_;simp (maxSteps:=2000000) (decide:=true) (disch:=omega) only [go_sem,↓reduceIte,↓Qad])
 ·rw [show orV 204 _ e=.sc .nilIface from if_neg h]
  refine Qaa Tryz.func232 rfl Tryz.ntmps232 Tryz.results232 ⟨by decide,by simp⟩ fun C hC=>?_
  repeat' first | refine sp_ ?_ | exact ex0 | (simp (maxSteps:=2000000) (decide:=true) (disch:=omega) only [go_sem,↓reduceIte,↓Qad]) | (refine Qap [] ?_;simp (maxSteps:=2000000) (decide:=true) (disch:=omega) only [go_sem,↓reduceIte,↓Qad])
def Qfm (p:Pc):List V:=[orV 122 (.agg (r8L (ofR p))) (ofE p),orV 188 (.lst 2 ((Qa5 p).map Qe3)) (QbT p),orV 319 (.agg (y9L (QqV p))) (QkS p),orV 208 (.agg (a9L (Qhf p))) (QkX p),orV 214 (.agg (Qut (QgT p))) (Qep p),orV 192 (.agg (Qu8 (Qdx p))) (QcF p),orV 204 (.agg (Qu9 (QqH p))) (QnA p)]
def Qgj:V→Bool
 | .ifc _ _=>true
 | _=>false
def Qd0 (p:Pc):V:=((Qfm p).find? Qgj).getD (.sc .nilIface)
theorem QuO:∀ (zs:List V) (j:Nat) (h:j<zs.length),(∀ k (hk:k<zs.length),k<j→Qgj zs[k]=false)→Qgj zs[j]=true→zs.find? Qgj=some zs[j]
 | z::zs,0,_,_,h=>by rw [List.find?_cons];rw [List.getElem_cons_zero] at h;rw [h];rfl
 | z::zs,j+1,h,hb,hj=>by
  have h0:=hb 0 (by simp) (by omega)
  rw [List.getElem_cons_zero] at h0
  rw [List.find?_cons,h0]
  exact QuO zs j (by simpa using h) (fun k hk hkj=>by have:=hb (k+1) (by simpa using hk) (by omega);simpa using this) (by simpa using hj)
theorem Qmu:∀ (zs:List V),(∀ k (hk:k<zs.length),Qgj zs[k]=false)→zs.find? Qgj=none
 | [],_=>rfl
 | z::zs,h=>by
  have h0:=h 0 (by simp)
  rw [List.getElem_cons_zero] at h0
  rw [List.find?_cons,h0]
  exact Qmu zs (fun k hk=>by have:=h (k+1) (by simpa using hk);simpa using this)
theorem Qhg (t:TypeId) (y:V) (e:Int):orV t y e=.sc .nilIface∨∃ u x,orV t y e=.ifc u x:=by
 unfold orV
 split
 ·exact .inr ⟨_,_,rfl⟩
 ·exact .inl rfl
def QDk (z:V):List V:=[z]
attribute [go_sem] QDk
theorem Qxu (p:Pc) (hp:p.2.2.length≤maxLen):Qan Tryz.prog 198 [.ca (.val (pcV p))] [] (.ca (.val (Qd0 p))) []:=by
 have hz:∀ z∈Qfm p,z=.sc .nilIface∨∃ u x,z=.ifc u x:=by
  intro z hz
  unfold Qfm at hz
  simp only [List.mem_cons,List.not_mem_nil,or_false] at hz
  rcases hz with rfl | rfl | rfl | rfl | rfl | rfl | rfl <;> exact Qhg _ _ _
 have a0:=QuB p hp
 have b0:=QGs (ofR p) (ofE p)
 have a1:=QkU p hp
 have b1:=QGt 2 ((Qa5 p).map Qe3) (QbT p)
 have a2:=QnG p hp
 have b2:=QGu (QqV p) (QkS p)
 have a3:=QnH p hp
 have b3:=QGv (Qhf p) (QkX p)
 have a4:=QAA p hp
 have b4:=QGw (QgT p) (Qep p)
 have a5:=QnK p hp
 have b5:=QGx (Qdx p) (QcF p)
 have a6:=QuN p hp
 have b6:=QGy (QqH p) (QnA p)
 obtain ⟨z0,hz0⟩:∃ z,z=orV 122 (.agg (r8L (ofR p))) (ofE p):=⟨_,rfl⟩
 have hP0:Qbs (.val z0)=some [z0]:=by rw [hz0];rcases Qhg 122 (.agg (r8L (ofR p))) (ofE p) with h | ⟨_,_,h⟩ <;> rw [h] <;> rfl
 rw [←hz0] at b0
 obtain ⟨z1,hz1⟩:∃ z,z=orV 188 (.lst 2 ((Qa5 p).map Qe3)) (QbT p):=⟨_,rfl⟩
 have hP1:Qbs (.val z1)=some [z1]:=by rw [hz1];rcases Qhg 188 (.lst 2 ((Qa5 p).map Qe3)) (QbT p) with h | ⟨_,_,h⟩ <;> rw [h] <;> rfl
 rw [←hz1] at b1
 obtain ⟨z2,hz2⟩:∃ z,z=orV 319 (.agg (y9L (QqV p))) (QkS p):=⟨_,rfl⟩
 have hP2:Qbs (.val z2)=some [z2]:=by rw [hz2];rcases Qhg 319 (.agg (y9L (QqV p))) (QkS p) with h | ⟨_,_,h⟩ <;> rw [h] <;> rfl
 rw [←hz2] at b2
 obtain ⟨z3,hz3⟩:∃ z,z=orV 208 (.agg (a9L (Qhf p))) (QkX p):=⟨_,rfl⟩
 have hP3:Qbs (.val z3)=some [z3]:=by rw [hz3];rcases Qhg 208 (.agg (a9L (Qhf p))) (QkX p) with h | ⟨_,_,h⟩ <;> rw [h] <;> rfl
 rw [←hz3] at b3
 obtain ⟨z4,hz4⟩:∃ z,z=orV 214 (.agg (Qut (QgT p))) (Qep p):=⟨_,rfl⟩
 have hP4:Qbs (.val z4)=some [z4]:=by rw [hz4];rcases Qhg 214 (.agg (Qut (QgT p))) (Qep p) with h | ⟨_,_,h⟩ <;> rw [h] <;> rfl
 rw [←hz4] at b4
 obtain ⟨z5,hz5⟩:∃ z,z=orV 192 (.agg (Qu8 (Qdx p))) (QcF p):=⟨_,rfl⟩
 have hP5:Qbs (.val z5)=some [z5]:=by rw [hz5];rcases Qhg 192 (.agg (Qu8 (Qdx p))) (QcF p) with h | ⟨_,_,h⟩ <;> rw [h] <;> rfl
 rw [←hz5] at b5
 obtain ⟨z6,hz6⟩:∃ z,z=orV 204 (.agg (Qu9 (QqH p))) (QnA p):=⟨_,rfl⟩
 have hP6:Qbs (.val z6)=some [z6]:=by rw [hz6];rcases Qhg 204 (.agg (Qu9 (QqH p))) (QnA p) with h | ⟨_,_,h⟩ <;> rw [h] <;> rfl
 rw [←hz6] at b6
 unfold Qd0
 have hZ0:Qfm p=Qfm p:=rfl
 conv at hZ0=>rhs;unfold Qfm
 rw [←hz0,←hz1,←hz2,←hz3,←hz4,←hz5,←hz6] at hZ0
 clear hz0 hz1 hz2 hz3 hz4 hz5 hz6
 obtain ⟨Z,hZ⟩:∃ Z,Z=Qfm p:=⟨_,rfl⟩
 have hlen:Z.length=7:=by rw [hZ];rfl
 rw [←hZ] at hz hZ0 ⊢
 clear hZ
 have hZm:Z.map QDk=[[z0],[z1],[z2],[z3],[z4],[z5],[z6]]:=by rw [hZ0];rfl
 clear hZ0
 refine Qaa Tryz.func198 rfl Tryz.ntmps198 Tryz.results198 ⟨by decide,by simp⟩ fun C hC=>?_
 (repeat' ((fail_if_success (refine Qat 2 ?_));(first | refine sp_ ?_ | exact ex0 | (simp (maxSteps:=2000000) (decide:=true) (disch:=omega) only [go_sem,↓reduceIte,↓Qad]) | refine Qab Tryz.call221 (a0) [] ex1 ?_ | refine Qab Tryz.call220 (b0) [] ex1 ?_ | refine Qab Tryz.call223 (a1) [] ex1 ?_ | refine Qab Tryz.call222 (b1) [] ex1 ?_ | refine Qab Tryz.call225 (a2) [] ex1 ?_ | refine Qab Tryz.call224 (b2) [] ex1 ?_ | refine Qab Tryz.call227 (a3) [] ex1 ?_ | refine Qab Tryz.call226 (b3) [] ex1 ?_ | refine Qab Tryz.call229 (a4) [] ex1 ?_ | refine Qab Tryz.call228 (b4) [] ex1 ?_ | refine Qab Tryz.call231 (a5) [] ex1 ?_ | refine Qab Tryz.call230 (b5) [] ex1 ?_ | refine Qab Tryz.call233 (a6) [] ex1 ?_ | (refine Qap [] ?_;simp (maxSteps:=2000000) (decide:=true) (disch:=omega) only [go_sem,↓reduceIte,↓Qad]))))
 refine Qac Tryz.call232 b6 [] ?_
 simp only [go_sem] at hP0 hP1 hP2 hP3 hP4 hP5 hP6
 simp (maxSteps:=2000000) (decide:=true) (disch:=omega) only [go_sem,hP0,hP1,hP2,hP3,hP4,hP5,hP6,↓reduceIte,↓Qad]
 (repeat' ((fail_if_success (refine Qat 2 ?_));(first | refine sp_ ?_ | exact ex0 | (simp (maxSteps:=2000000) (decide:=true) (disch:=omega) only [go_sem,↓reduceIte,↓Qad]) | (refine Qap [] ?_;simp (maxSteps:=2000000) (decide:=true) (disch:=omega) only [go_sem,↓reduceIte,↓Qad]))))
 refine QaD (α:={j:Nat // j≤7∧∀ k (hk:k<Z.length),k<j→Qgj Z[k]=false}) (fun j=>[(.s 40,.av (.val (.lst 1 (Z.map QDk)))),(.s 41,.av (.val (vi 7))),(.s 42,.av (.val (vi j.1)))]) (fun j=>7-j.1) ⟨0,by omega,fun k _ h=>by omega⟩ ?_ (fun j=>?_)
 ·(try dsimp only)
  rw [hZm]
  simp (maxSteps:=2000000) (decide:=true) (disch:=omega) only [go_sem,↓reduceIte,↓Qad]
 ·obtain ⟨j,hj,hb⟩:=j
  dsimp only at hj hb ⊢
  clear hZm hP0 hP1 hP2 hP3 hP4 hP5 hP6
  by_cases hlt:j<Z.length
  ·have hge:(Z.map QDk).getD j []=[Z[j]]:=by simp [hlt,QDk]
   rcases hz _ (List.getElem_mem hlt) with h0 | ⟨u,x,h0⟩
   ·have hb2:∀ k (hk:k<Z.length),k<j+1→Qgj Z[k]=false:=fun k hk hkj=>by
     rcases Nat.lt_succ_iff_lt_or_eq.1 hkj with h | rfl
     ·exact hb k hk h
     ·rw [h0];rfl
    rw [h0] at hge
    repeat' first | refine sp_ ?_ | exact ex0 | (simp (maxSteps:=2000000) (decide:=true) (disch:=omega) only [go_sem,↓reduceIte,↓Qad]) | (refine Qap [] ?_;simp (maxSteps:=2000000) (decide:=true) (disch:=omega) only [go_sem,↓reduceIte,↓Qad])
    simp only [h0]
    repeat' first | refine sp_ ?_ | exact ex0 | (simp (maxSteps:=2000000) (decide:=true) (disch:=omega) only [go_sem,↓reduceIte,↓Qad]) | (refine Qap [] ?_;simp (maxSteps:=2000000) (decide:=true) (disch:=omega) only [go_sem,↓reduceIte,↓Qad])
    refine QxL (.inr rfl) (by kernel_rfl) true (by simp (maxSteps:=2000000) (decide:=true) (disch:=omega) only [go_sem,↓reduceIte,↓Qad]) ?_
    repeat' first | refine sp_ ?_ | exact ex0 | (simp (maxSteps:=2000000) (decide:=true) (disch:=omega) only [go_sem,↓reduceIte,↓Qad]) | (refine Qap [] ?_;simp (maxSteps:=2000000) (decide:=true) (disch:=omega) only [go_sem,↓reduceIte,↓Qad])
    refine Qau (α:={j:Nat // j≤7∧∀ k (hk:k<Z.length),k<j→Qgj Z[k]=false}) ⟨j+1,by omega,hb2⟩ ⟨?_,by (try dsimp only);omega⟩
    simp (maxSteps:=2000000) (decide:=true) (disch:=omega) only [go_sem,↓reduceIte,↓Qad]
   ·have hf:=QuO Z j hlt hb (by rw [h0];rfl)
    rw [hf,h0]
    rw [h0] at hge
    dsimp only [Option.getD_some]
    repeat' first | refine sp_ ?_ | exact ex0 | (simp (maxSteps:=2000000) (decide:=true) (disch:=omega) only [go_sem,↓reduceIte,↓Qad]) | (refine Qap [] ?_;simp (maxSteps:=2000000) (decide:=true) (disch:=omega) only [go_sem,↓reduceIte,↓Qad])
    simp only [h0]
    repeat' first | refine sp_ ?_ | exact ex0 | (simp (maxSteps:=2000000) (decide:=true) (disch:=omega) only [go_sem,↓reduceIte,↓Qad]) | (refine Qap [] ?_;simp (maxSteps:=2000000) (decide:=true) (disch:=omega) only [go_sem,↓reduceIte,↓Qad])
    refine QxL (.inr rfl) (by kernel_rfl) false (by simp (maxSteps:=2000000) (decide:=true) (disch:=omega) only [go_sem,↓reduceIte,↓Qad]) ?_
    repeat' first | refine sp_ ?_ | exact ex0 | (simp (maxSteps:=2000000) (decide:=true) (disch:=omega) only [go_sem,↓reduceIte,↓Qad]) | (refine Qap [] ?_;simp (maxSteps:=2000000) (decide:=true) (disch:=omega) only [go_sem,↓reduceIte,↓Qad])
  ·have hf:=Qmu Z (fun k hk=>hb k hk (by omega))
   rw [hf]
   dsimp only [Option.getD_none]
   repeat' first | refine sp_ ?_ | exact ex0 | (simp (maxSteps:=2000000) (decide:=true) (disch:=omega) only [go_sem,↓reduceIte,↓Qad]) | (refine Qap [] ?_;simp (maxSteps:=2000000) (decide:=true) (disch:=omega) only [go_sem,↓reduceIte,↓Qad])
end Go.Proofs.YthfocmakkeonoaaGreatDoor
namespace Go.Proofs.YthfocmakkeonoaaGreatDoor
open Go.RowKit
def QuP:List UInt8:=[128,204,0,3,0,0,0,0,99,115,117,109]
theorem QnL (d:List UInt8) (hd:d.length=4):QbA (Qyq d)=QuP++d:=by
 unfold QbA Qyq
 dsimp only
 have hl:(([0,0,0,0]++Qjm++d:List UInt8).length / 4:Nat)=3:=by simp [Qjm,hd]
 rw [hl]
 have h1:QaK (128+0) 1=[128]:=by decide
 have h2:QaK 204 1=[204]:=by decide
 have h3:QaK ((3:Nat):Int) 2=[0,3]:=by decide
 rw [h1,h2,h3]
 rfl
theorem Qxv (d:List UInt8) (hd:d.length=4):Qq6 (Qyq d)=true:=by
 rw [QhE]
 unfold Qyq
 simp [Qjm,hd]
theorem Qxw (h F:List UInt8) (hF:F.length=4):Qqp (h++F) (((h++F).length:Int)-4)=Qf4 h []:=by
 have hl:(h++F).length=h.length+4:=by rw [List.length_append,hF]
 unfold Qqp Qhb
 rw [if_pos (by rw [decide_eq_true_eq];omega)]
 have e1:(((h++F).length:Int)-4).toNat=h.length:=by omega
 rw [e1,List.take_left,List.drop_of_length_le (by omega)]
noncomputable def Qxx (ps:List Pc):List UInt8:=if Qyp ps=0 then Qf4 (Qcc ps++QuP) [] else []
end Go.Proofs.YthfocmakkeonoaaGreatDoor
namespace Go.Proofs.YthfocmakkeonoaaGreatDoor
open Go.RowKit
theorem Qxy {p:Pc} (h:QbR p≠0):QbR p=QcA p∧(QcA p=4→(Qhf p).name≠Qjm)∧(QcA p=2→Qa5 p≠[]):=by
 have e:=Qgi p
 by_cases hc:(QcA p=2∧Qa5 p=[])∨(QcA p=4∧(Qhf p).name=Qjm)
 ·rw [if_pos hc] at e
  exact absurd e h
 ·rw [if_neg hc] at e
  exact ⟨e,fun h4 hn=>hc (.inr ⟨h4,hn⟩),fun h2 hn=>hc (.inl ⟨h2,hn⟩)⟩
end Go.Proofs.YthfocmakkeonoaaGreatDoor
namespace Go.Proofs.YthfocmakkeonoaaGreatDoor
open Go.RowKit
end Go.Proofs.YthfocmakkeonoaaGreatDoor
namespace Go.Proofs.YthfocmakkeonoaaGreatDoor
open Go.RowKit
def QFE (n:Nat):Nat:=6+n+Qgh (6+n) 1
def okN (s:List UInt8):Prop:=8≤s.length∧s.getD 4 0=1∧(s.getD 5 0).toNat≠0∧QFE (s.getD 5 0).toNat≤s.length∧∀ i,i<QFE (s.getD 5 0).toNat→6+(s.getD 5 0).toNat≤i→s.getD i 0=0
instance decN (s:List UInt8):Decidable (okN s):=by unfold okN;infer_instance
theorem QAO (f:Nat) (x:List UInt8 × Int) (acc:List N9) (hx:x.1.length≤maxLen) (ha:∀ a∈acc,a.Ok):∀ a∈Qpa f x acc,a.Ok:=by
 induction f generalizing x acc with
 | zero=>exact ha
 | succ f ih=>
  unfold Qpa
  split
  ·exact ha
  ·refine ih _ _ (Nat.le_trans (QuG x) hx) fun a h=>?_
   rcases List.mem_append.1 h with h | h
   ·exact ha a h
   ·rw [List.mem_singleton.1 h];exact Qyo x hx
end Go.Proofs.YthfocmakkeonoaaGreatDoor
namespace Go.Proofs.YthfocmakkeonoaaGreatDoor
open Go.RowKit
def QGC (c:Nat) (b:List UInt8):List Int:=(List.range c).map fun i=>(QaP ((b.drop (4 * i)).take 4):Int)
def QuQ (p:Pc):List UInt8:=p.2.2.drop (4 * p.1.toNat)
def QFl (p:Pc):Nat:=((QuQ p).getD 0 0).toNat
def QDl (p:Pc):Prop:=(0≤p.1∧p.1≤31∧4 * p.1.toNat≤p.2.2.length)∧(QuQ p=[]∨(QFl p≠0∧QFl p<(QuQ p).length∧QFh ((QuQ p).take (QFl p+1))=QuQ p))
instance decY (p:Pc):Decidable (QDl p):=by unfold QDl;infer_instance
end Go.Proofs.YthfocmakkeonoaaGreatDoor
namespace Go.Proofs.YthfocmakkeonoaaGreatDoor
open Go.RowKit
end Go.Proofs.YthfocmakkeonoaaGreatDoor
namespace Go.Proofs.YthfocmakkeonoaaGreatDoor
open Go.RowKit
end Go.Proofs.YthfocmakkeonoaaGreatDoor
namespace Go.Proofs.YthfocmakkeonoaaGreatDoor
open Go.RowKit
end Go.Proofs.YthfocmakkeonoaaGreatDoor
namespace Go.Proofs.YthfocmakkeonoaaGreatDoor
open Go.RowKit
theorem QuR (p:Pc) (hp:p.2.2.length≤maxLen):(∀ a∈Qa5 p,a.Ok)∧(Qa5 p).length≤100000:=by
 unfold Qa5
 have hlen:∀ f x acc,(Qpa f x acc).length≤acc.length+f:=by
  intro f
  induction f with
  | zero=>intro x acc;simp [Qpa]
  | succ f ih=>
   intro x acc
   unfold Qpa
   split
   ·omega
   ·have:=ih (nxN x) (acc++[rdN x])
    simp only [List.length_append,List.length_cons,List.length_nil] at this
    omega
 split
 ·exact ⟨QAO 32 (p.2.2,0) [] hp (fun a h=>by simp at h),by have:=hlen 32 (p.2.2,0) [];unfold Qxq;simp only [List.length_nil] at this;omega⟩
 ·exact ⟨fun a h=>by simp at h,by simp⟩
end Go.Proofs.YthfocmakkeonoaaGreatDoor
namespace Go.Proofs.YthfocmakkeonoaaGreatDoor
open Go.RowKit
section
variable {P:Program} {ops:Array Oper} {C:Ctx} {E:Env} {σ:St} {a:Act} {w:World} {md:Bool} {K:St→List FP→Prop} {acc:List FP} {rest:List Oper} {Q:Exit→St→Prop}
theorem QAP {d:Tmp} {x:Operand} {xt at':TypeId} (hc:QlG P at'=true) (hx:Qzh at' (ev σ x)) (hz0:(Qdn P at').isSome=true) :
  Qbl P C σ (some d) (.typeAssert x xt at' true) (some (True,rdl x,[(.s d,.av (.val (.tup [.any,.sc (.bool false)])))])):=by
 obtain ⟨z,hz⟩:=Option.isSome_iff_exists.1 hz0
 refine Qar fun _ ty pos af E σ' a w hr hg=>?_
 have h:=Qax hg x
 rw [Qae hr] at h
 obtain ⟨dd,h1,h2⟩:=QgA hc
 have hzr:(zeroValue at').run P w=.ok z w:=by
  unfold Qdn at hz
  obtain ⟨i,hi,hz⟩:=Option.bind_eq_some_iff.1 hz
  simp [zeroValue,typeInfo,hi,hz]
 refine ⟨.tuple #[z,.bool false],?_,.tup _ _ rfl fun i hi=>?_⟩
 ·have key:∀ v,(v=.nilIface∨∃ t u,v=.iface t u∧t≠at')→(Instr.typeAssert v xt at' true).run P w=.ok (.tuple #[z,.bool false]) w:=fun v hv=>by
   unfold Instr.typeAssert
   simp only [Sem.run_bind,run_underlying h1,Result.andThen_ok]
   rcases hv with rfl | ⟨t,u,rfl,hne⟩ <;> cases dd <;> first | exact absurd rfl (h2 _) | (simp [hzr,hne];done) | (simp [hzr];done)
  have hv:a.eval x=.nilIface∨∃ t u,a.eval x=.iface t u∧t≠at':=by
   cases he:ev σ x with
   | val X=>
    rw [he] at h hx
    cases X with
    | sc u=>exact .inl ((Rd.sc_eq h).trans hx)
    | ifc t y=>
     have h:Rd E.m (.ifc t y) (a.eval x):=h
     generalize a.eval x=v at h
     cases h with
     | ifc _ _ u hu=>exact .inr ⟨t,u,rfl,hx⟩
    | _=>exact hx.elim
   | _=>rw [he] at hx;exact hx.elim
  simp [execOp,key _ hv]
 ·have:i=0∨i=1:=by simp at hi;omega
  rcases this with rfl | rfl
  ·exact Rd.any _
  ·exact Rd.sc _
theorem Qa2 {d:Tmp} {x:Operand} {xt at':TypeId} {ty:TypeId} {pos:String} {af:Array Edge} (hc:QlG P at'=true) (hx:Qzh at' (ev σ x)) (hz:(Qdn P at').isSome=true)
  (k:Qb7 P ops C md K rest (put σ (.s d) (.av (.val (.tup [.any,.sc (.bool false)])))) ((rdl x,[.s d])::acc)):Run P ops C md K (⟨some d,.typeAssert x xt at' true,ty,pos,af,none⟩::rest) σ acc:=
 Qde (QAP hc hx hz) rfl trivial k
end
end Go.Proofs.YthfocmakkeonoaaGreatDoor
namespace Go.Proofs.YthfocmakkeonoaaGreatDoor
open Go.RowKit
abbrev Qi5 (B:Bag12):List CA:=[.own 122 7 (B.reports.map QhF),.own 126 2 (B.names.map Qe3),.own 319 2 (B.byes.map QhG),.own 208 4 (B.apps.map QhH),.own 214 3 (B.nacks.map QcM),.own 192 2 (B.lines.map QcN),.own 204 2 (B.ads.map QcO)]
structure Bag12.Few (B:Bag12):Prop where
 reports:B.reports.length≤1000000
 names:B.names.length≤1000000
 byes:B.byes.length≤1000000
 apps:B.apps.length≤1000000
 nacks:B.nacks.length≤1000000
 lines:B.lines.length≤1000000
 ads:B.ads.length≤1000000
theorem QkV (nr:List N9):(∀ r∈nr.map Qe3,r.length=2)∧∀ r∈nr.map Qe3,∀ y∈r,Qfn y=true:=by
 constructor
 ·intro r hr
  obtain ⟨x,_,rfl⟩:=List.mem_map.1 hr
  rfl
 ·intro r hr y hy
  obtain ⟨x,_,rfl⟩:=List.mem_map.1 hr
  simp only [Qe3,List.mem_cons,List.not_mem_nil,or_false] at hy
  rcases hy with rfl | rfl
  ·rfl
  ·rfl
theorem Qpb (B:Bag12) (p:Pc) (hp:p.2.2.length≤maxLen) (hB:B.Few):Qan Tryz.prog 160 [.ptr 0 0,.ca (.val (pcV p))] [Qi5 B] (.ca (.val (vb (decide (QbR p≠0))))) [Qi5 (QbI B p)]:=by
 obtain ⟨re,na,bt,ap,nk,li,ad⟩:=B
 obtain ⟨f1,f2,f3,f4,f5,f6,f7⟩:=hB
 dsimp only at f1 f2 f3 f4 f5 f6 f7
 have c:=Qxu p hp
 have hwe:=Qgi p
 have hnl:=(QuR p hp).2
 rcases QjW p with ⟨hs,h1⟩ | ⟨hs,h1,h2⟩ | ⟨hs,h1,h2,h3⟩ | ⟨hs,h1,h2,h3,h4⟩ | ⟨hs,h1,h2,h3,h4,h5⟩ | ⟨hs,h1,h2,h3,h4,h5,h6⟩ | ⟨hs,h1,h2,h3,h4,h5,h6,h7⟩ | ⟨hs,h1,h2,h3,h4,h5,h6,h7⟩
 ·have hv:Qd0 p=.ifc 122 (.agg (r8L (ofR p))):=by unfold Qd0 Qfm orV;rw [if_pos h1];rfl
  rw [hv] at c
  rw [hs,if_neg (by omega)] at hwe
  have hT:Qi5 (QbI ⟨re,na,bt,ap,nk,li,ad⟩ p)=[.own 122 7 (re.map QhF++[r8L (ofR p)]),.own 126 2 (na.map Qe3),.own 319 2 (bt.map QhG),.own 208 4 (ap.map QhH),.own 214 3 (nk.map QcM),.own 192 2 (li.map QcN),.own 204 2 (ad.map QcO)]:=by simp [Qi5,QbI,hs,QhF,QhG,QhH,QcM,QcN,QcO]
  rw [hT]
  rw [show decide (QbR p≠0)=true by rw [hwe];rfl]
  clear hT hwe hs
  refine Qaa Tryz.func160 rfl Tryz.ntmps160 Tryz.results160 ⟨by decide,by simp⟩ fun C hC=>?_
  repeat' first | refine sp_ ?_ | exact ex0 | refine Qab Tryz.call198 (c) [] ex1 ?_ | exact re0 []
  refine Qkq (by kernel_rfl) _ (by simp (decide:=true) (disch:=omega) only [go_sem,↓reduceIte,↓Qad];rfl) ?_
  repeat' first | refine sp_ ?_ | exact ex0 | exact re0 []
 ·have hv:Qd0 p=.ifc 188 (.lst 2 ((Qa5 p).map Qe3)):=by unfold Qd0 Qfm orV;rw [if_neg h1,if_pos h2];rfl
  rw [hv] at c
  by_cases hn:Qa5 p=[]
  ·rw [hs,if_pos (.inl ⟨rfl,hn⟩)] at hwe
   have hT:Qi5 (QbI ⟨re,na,bt,ap,nk,li,ad⟩ p)=[.own 122 7 (re.map QhF),.own 126 2 (na.map Qe3++(Qa5 p).map Qe3),.own 319 2 (bt.map QhG),.own 208 4 (ap.map QhH),.own 214 3 (nk.map QcM),.own 192 2 (li.map QcN),.own 204 2 (ad.map QcO)]:=by simp [Qi5,QbI,hs,QhF,QhG,QhH,QcM,QcN,QcO]
   rw [hT]
   rw [show decide (QbR p≠0)=false by rw [hwe];rfl]
   clear hT hwe hs
   have hn0:(Qa5 p).length=0:=by rw [hn];rfl
   clear hn
   generalize Qa5 p=nr at *
   refine Qaa Tryz.func160 rfl Tryz.ntmps160 Tryz.results160 ⟨by decide,by simp⟩ fun C hC=>?_
   repeat' first | refine sp_ ?_ | exact ex0 | refine Qab Tryz.call198 (c) [] ex1 ?_ | exact re0 []
   refine Qa2 (by kernel_rfl) ex0 (by kernel_rfl) ?_
   repeat' first | refine sp_ ?_ | exact ex0 | exact re0 []
   refine Qkq (by kernel_rfl) _ (by simp (decide:=true) (disch:=omega) only [go_sem,↓reduceIte,↓Qad];rfl) ?_
   repeat' first | refine sp_ ?_ | exact ex0 | exact re0 []
   refine ⟨⟨by omega,by omega,(QkV nr).1,(QkV nr).2⟩,?_⟩
   repeat' first | refine sp_ ?_ | exact ex0 | exact re0 []
  ·rw [hs,if_neg (by simp [hn])] at hwe
   have hT:Qi5 (QbI ⟨re,na,bt,ap,nk,li,ad⟩ p)=[.own 122 7 (re.map QhF),.own 126 2 (na.map Qe3++(Qa5 p).map Qe3),.own 319 2 (bt.map QhG),.own 208 4 (ap.map QhH),.own 214 3 (nk.map QcM),.own 192 2 (li.map QcN),.own 204 2 (ad.map QcO)]:=by simp [Qi5,QbI,hs,QhF,QhG,QhH,QcM,QcN,QcO]
   rw [hT]
   rw [show decide (QbR p≠0)=true by rw [hwe];rfl]
   clear hT hwe hs
   have hn0:0<(Qa5 p).length:=List.length_pos_iff.2 hn
   clear hn
   generalize Qa5 p=nr at *
   refine Qaa Tryz.func160 rfl Tryz.ntmps160 Tryz.results160 ⟨by decide,by simp⟩ fun C hC=>?_
   repeat' first | refine sp_ ?_ | exact ex0 | refine Qab Tryz.call198 (c) [] ex1 ?_ | exact re0 []
   refine Qa2 (by kernel_rfl) ex0 (by kernel_rfl) ?_
   repeat' first | refine sp_ ?_ | exact ex0 | exact re0 []
   refine Qkq (by kernel_rfl) _ (by simp (decide:=true) (disch:=omega) only [go_sem,↓reduceIte,↓Qad];rfl) ?_
   repeat' first | refine sp_ ?_ | exact ex0 | exact re0 []
   refine ⟨⟨by omega,by omega,(QkV nr).1,(QkV nr).2⟩,?_⟩
   repeat' first | refine sp_ ?_ | exact ex0 | exact re0 []
 ·have hv:Qd0 p=.ifc 319 (.agg (y9L (QqV p))):=by unfold Qd0 Qfm orV;rw [if_neg h1,if_neg h2,if_pos h3];rfl
  rw [hv] at c
  rw [hs,if_neg (by omega)] at hwe
  have hT:Qi5 (QbI ⟨re,na,bt,ap,nk,li,ad⟩ p)=[.own 122 7 (re.map QhF),.own 126 2 (na.map Qe3),.own 319 2 (bt.map QhG++[y9L (QqV p)]),.own 208 4 (ap.map QhH),.own 214 3 (nk.map QcM),.own 192 2 (li.map QcN),.own 204 2 (ad.map QcO)]:=by simp [Qi5,QbI,hs,QhF,QhG,QhH,QcM,QcN,QcO]
  rw [hT]
  rw [show decide (QbR p≠0)=true by rw [hwe];rfl]
  clear hT hwe hs
  refine Qaa Tryz.func160 rfl Tryz.ntmps160 Tryz.results160 ⟨by decide,by simp⟩ fun C hC=>?_
  repeat' first | refine sp_ ?_ | exact ex0 | refine Qab Tryz.call198 (c) [] ex1 ?_ | exact re0 []
  refine Qa2 (by kernel_rfl) ex0 (by kernel_rfl) ?_
  repeat' first | refine sp_ ?_ | exact ex0 | exact re0 []
  refine Qa2 (by kernel_rfl) ex0 (by kernel_rfl) ?_
  repeat' first | refine sp_ ?_ | exact ex0 | exact re0 []
  refine Qkq (by kernel_rfl) _ (by simp (decide:=true) (disch:=omega) only [go_sem,↓reduceIte,↓Qad];rfl) ?_
  repeat' first | refine sp_ ?_ | exact ex0 | exact re0 []
 ·have hv:Qd0 p=.ifc 208 (.agg (a9L (Qhf p))):=by unfold Qd0 Qfm orV;rw [if_neg h1,if_neg h2,if_neg h3,if_pos h4];rfl
  rw [hv] at c
  by_cases hn:(Qhf p).name=Qjm
  ·rw [hs,if_pos (.inr ⟨rfl,hn⟩)] at hwe
   have hT:Qi5 (QbI ⟨re,na,bt,ap,nk,li,ad⟩ p)=[.own 122 7 (re.map QhF),.own 126 2 (na.map Qe3),.own 319 2 (bt.map QhG),.own 208 4 (ap.map QhH),.own 214 3 (nk.map QcM),.own 192 2 (li.map QcN),.own 204 2 (ad.map QcO)]:=by simp [Qi5,QbI,hs,QhF,QhG,QhH,QcM,QcN,QcO,hn]
   rw [hT]
   rw [show decide (QbR p≠0)=false by rw [hwe];rfl]
   clear hT hwe hs
   generalize Qhf p=a at *
   obtain ⟨a1,a2,a3,a4⟩:=a
   dsimp only at hn
   subst hn
   unfold Qjm at c
   refine Qaa Tryz.func160 rfl Tryz.ntmps160 Tryz.results160 ⟨by decide,by simp⟩ fun C hC=>?_
   repeat' first | refine sp_ ?_ | exact ex0 | refine Qab Tryz.call198 (c) [] ex1 ?_ | exact re0 []
   refine Qa2 (by kernel_rfl) ex0 (by kernel_rfl) ?_
   repeat' first | refine sp_ ?_ | exact ex0 | exact re0 []
   refine Qa2 (by kernel_rfl) ex0 (by kernel_rfl) ?_
   repeat' first | refine sp_ ?_ | exact ex0 | exact re0 []
   refine Qa2 (by kernel_rfl) ex0 (by kernel_rfl) ?_
   repeat' first | refine sp_ ?_ | exact ex0 | exact re0 []
   refine Qkq (by kernel_rfl) _ (by simp (decide:=true) (disch:=omega) only [go_sem,↓reduceIte,↓Qad];rfl) ?_
   repeat' first | refine sp_ ?_ | exact ex0 | exact re0 []
  ·rw [hs,if_neg (by simp [hn])] at hwe
   have hT:Qi5 (QbI ⟨re,na,bt,ap,nk,li,ad⟩ p)=[.own 122 7 (re.map QhF),.own 126 2 (na.map Qe3),.own 319 2 (bt.map QhG),.own 208 4 (ap.map QhH++[a9L (Qhf p)]),.own 214 3 (nk.map QcM),.own 192 2 (li.map QcN),.own 204 2 (ad.map QcO)]:=by simp [Qi5,QbI,hs,QhF,QhG,QhH,QcM,QcN,QcO,hn]
   rw [hT]
   rw [show decide (QbR p≠0)=true by rw [hwe];rfl]
   clear hT hwe hs
   generalize Qhf p=a at *
   obtain ⟨a1,a2,a3,a4⟩:=a
   dsimp only at hn
   unfold Qjm at hn
   have hne:(a3 == [99,115,117,109])=false:=by simpa using hn
   refine Qaa Tryz.func160 rfl Tryz.ntmps160 Tryz.results160 ⟨by decide,by simp⟩ fun C hC=>?_
   repeat' first | refine sp_ ?_ | exact ex0 | refine Qab Tryz.call198 (c) [] ex1 ?_ | exact re0 []
   refine Qa2 (by kernel_rfl) ex0 (by kernel_rfl) ?_
   repeat' first | refine sp_ ?_ | exact ex0 | exact re0 []
   refine Qa2 (by kernel_rfl) ex0 (by kernel_rfl) ?_
   repeat' first | refine sp_ ?_ | exact ex0 | exact re0 []
   refine Qa2 (by kernel_rfl) ex0 (by kernel_rfl) ?_
   repeat' first | refine sp_ ?_ | exact ex0 | exact re0 []
   refine Qkq (by kernel_rfl) _ (by simp (decide:=true) (disch:=omega) only [go_sem,↓reduceIte,↓Qad];rfl) ?_
   repeat' first | refine sp_ ?_ | exact ex0 | exact re0 []
   simp only [hne]
   repeat' first | refine sp_ ?_ | exact ex0 | exact re0 []
 ·have hv:Qd0 p=.ifc 214 (.agg (Qut (QgT p))):=by unfold Qd0 Qfm orV;rw [if_neg h1,if_neg h2,if_neg h3,if_neg h4,if_pos h5];rfl
  rw [hv] at c
  rw [hs,if_neg (by omega)] at hwe
  have hT:Qi5 (QbI ⟨re,na,bt,ap,nk,li,ad⟩ p)=[.own 122 7 (re.map QhF),.own 126 2 (na.map Qe3),.own 319 2 (bt.map QhG),.own 208 4 (ap.map QhH),.own 214 3 (nk.map QcM++[Qut (QgT p)]),.own 192 2 (li.map QcN),.own 204 2 (ad.map QcO)]:=by simp [Qi5,QbI,hs,QhF,QhG,QhH,QcM,QcN,QcO]
  rw [hT]
  rw [show decide (QbR p≠0)=true by rw [hwe];rfl]
  clear hT hwe hs
  refine Qaa Tryz.func160 rfl Tryz.ntmps160 Tryz.results160 ⟨by decide,by simp⟩ fun C hC=>?_
  repeat' first | refine sp_ ?_ | exact ex0 | refine Qab Tryz.call198 (c) [] ex1 ?_ | exact re0 []
  refine Qa2 (by kernel_rfl) ex0 (by kernel_rfl) ?_
  repeat' first | refine sp_ ?_ | exact ex0 | exact re0 []
  refine Qa2 (by kernel_rfl) ex0 (by kernel_rfl) ?_
  repeat' first | refine sp_ ?_ | exact ex0 | exact re0 []
  refine Qa2 (by kernel_rfl) ex0 (by kernel_rfl) ?_
  repeat' first | refine sp_ ?_ | exact ex0 | exact re0 []
  refine Qa2 (by kernel_rfl) ex0 (by kernel_rfl) ?_
  repeat' first | refine sp_ ?_ | exact ex0 | exact re0 []
  refine Qkq (by kernel_rfl) _ (by simp (decide:=true) (disch:=omega) only [go_sem,↓reduceIte,↓Qad];rfl) ?_
  repeat' first | refine sp_ ?_ | exact ex0 | exact re0 []
 ·have hv:Qd0 p=.ifc 192 (.agg (Qu8 (Qdx p))):=by unfold Qd0 Qfm orV;rw [if_neg h1,if_neg h2,if_neg h3,if_neg h4,if_neg h5,if_pos h6];rfl
  rw [hv] at c
  rw [hs,if_neg (by omega)] at hwe
  have hT:Qi5 (QbI ⟨re,na,bt,ap,nk,li,ad⟩ p)=[.own 122 7 (re.map QhF),.own 126 2 (na.map Qe3),.own 319 2 (bt.map QhG),.own 208 4 (ap.map QhH),.own 214 3 (nk.map QcM),.own 192 2 (li.map QcN++[Qu8 (Qdx p)]),.own 204 2 (ad.map QcO)]:=by simp [Qi5,QbI,hs,QhF,QhG,QhH,QcM,QcN,QcO]
  rw [hT]
  rw [show decide (QbR p≠0)=true by rw [hwe];rfl]
  clear hT hwe hs
  refine Qaa Tryz.func160 rfl Tryz.ntmps160 Tryz.results160 ⟨by decide,by simp⟩ fun C hC=>?_
  repeat' first | refine sp_ ?_ | exact ex0 | refine Qab Tryz.call198 (c) [] ex1 ?_ | exact re0 []
  refine Qa2 (by kernel_rfl) ex0 (by kernel_rfl) ?_
  repeat' first | refine sp_ ?_ | exact ex0 | exact re0 []
  refine Qa2 (by kernel_rfl) ex0 (by kernel_rfl) ?_
  repeat' first | refine sp_ ?_ | exact ex0 | exact re0 []
  refine Qa2 (by kernel_rfl) ex0 (by kernel_rfl) ?_
  repeat' first | refine sp_ ?_ | exact ex0 | exact re0 []
  refine Qa2 (by kernel_rfl) ex0 (by kernel_rfl) ?_
  repeat' first | refine sp_ ?_ | exact ex0 | exact re0 []
  refine Qa2 (by kernel_rfl) ex0 (by kernel_rfl) ?_
  repeat' first | refine sp_ ?_ | exact ex0 | exact re0 []
  refine Qkq (by kernel_rfl) _ (by simp (decide:=true) (disch:=omega) only [go_sem,↓reduceIte,↓Qad];rfl) ?_
  repeat' first | refine sp_ ?_ | exact ex0 | exact re0 []
 ·have hv:Qd0 p=.ifc 204 (.agg (Qu9 (QqH p))):=by unfold Qd0 Qfm orV;rw [if_neg h1,if_neg h2,if_neg h3,if_neg h4,if_neg h5,if_neg h6,if_pos h7];rfl
  rw [hv] at c
  rw [hs,if_neg (by omega)] at hwe
  have hT:Qi5 (QbI ⟨re,na,bt,ap,nk,li,ad⟩ p)=[.own 122 7 (re.map QhF),.own 126 2 (na.map Qe3),.own 319 2 (bt.map QhG),.own 208 4 (ap.map QhH),.own 214 3 (nk.map QcM),.own 192 2 (li.map QcN),.own 204 2 (ad.map QcO++[Qu9 (QqH p)])]:=by simp [Qi5,QbI,hs,QhF,QhG,QhH,QcM,QcN,QcO]
  rw [hT]
  rw [show decide (QbR p≠0)=true by rw [hwe];rfl]
  clear hT hwe hs
  refine Qaa Tryz.func160 rfl Tryz.ntmps160 Tryz.results160 ⟨by decide,by simp⟩ fun C hC=>?_
  repeat' first | refine sp_ ?_ | exact ex0 | refine Qab Tryz.call198 (c) [] ex1 ?_ | exact re0 []
  refine Qa2 (by kernel_rfl) ex0 (by kernel_rfl) ?_
  repeat' first | refine sp_ ?_ | exact ex0 | exact re0 []
  refine Qa2 (by kernel_rfl) ex0 (by kernel_rfl) ?_
  repeat' first | refine sp_ ?_ | exact ex0 | exact re0 []
  refine Qa2 (by kernel_rfl) ex0 (by kernel_rfl) ?_
  repeat' first | refine sp_ ?_ | exact ex0 | exact re0 []
  refine Qa2 (by kernel_rfl) ex0 (by kernel_rfl) ?_
  repeat' first | refine sp_ ?_ | exact ex0 | exact re0 []
  refine Qa2 (by kernel_rfl) ex0 (by kernel_rfl) ?_
  repeat' first | refine sp_ ?_ | exact ex0 | exact re0 []
  refine Qa2 (by kernel_rfl) ex0 (by kernel_rfl) ?_
  repeat' first | refine sp_ ?_ | exact ex0 | exact re0 []
  refine Qkq (by kernel_rfl) _ (by simp (decide:=true) (disch:=omega) only [go_sem,↓reduceIte,↓Qad];rfl) ?_
  repeat' first | refine sp_ ?_ | exact ex0 | exact re0 []
 ·have hv:Qd0 p=.sc .nilIface:=by unfold Qd0 Qfm orV;rw [if_neg h1,if_neg h2,if_neg h3,if_neg h4,if_neg h5,if_neg h6,if_neg h7];rfl
  rw [hv] at c
  rw [hs,if_neg (by omega)] at hwe
  have hT:Qi5 (QbI ⟨re,na,bt,ap,nk,li,ad⟩ p)=[.own 122 7 (re.map QhF),.own 126 2 (na.map Qe3),.own 319 2 (bt.map QhG),.own 208 4 (ap.map QhH),.own 214 3 (nk.map QcM),.own 192 2 (li.map QcN),.own 204 2 (ad.map QcO)]:=by simp [Qi5,QbI,hs,QhF,QhG,QhH,QcM,QcN,QcO]
  rw [hT]
  rw [show decide (QbR p≠0)=false by rw [hwe];rfl]
  clear hT hwe hs
  refine Qaa Tryz.func160 rfl Tryz.ntmps160 Tryz.results160 ⟨by decide,by simp⟩ fun C hC=>?_
  repeat' first | refine sp_ ?_ | exact ex0 | refine Qab Tryz.call198 (c) [] ex1 ?_ | exact re0 []
  refine Qa2 (by kernel_rfl) ex0 (by kernel_rfl) ?_
  repeat' first | refine sp_ ?_ | exact ex0 | exact re0 []
  refine Qa2 (by kernel_rfl) ex0 (by kernel_rfl) ?_
  repeat' first | refine sp_ ?_ | exact ex0 | exact re0 []
  refine Qa2 (by kernel_rfl) ex0 (by kernel_rfl) ?_
  repeat' first | refine sp_ ?_ | exact ex0 | exact re0 []
  refine Qa2 (by kernel_rfl) ex0 (by kernel_rfl) ?_
  repeat' first | refine sp_ ?_ | exact ex0 | exact re0 []
  refine Qa2 (by kernel_rfl) ex0 (by kernel_rfl) ?_
  repeat' first | refine sp_ ?_ | exact ex0 | exact re0 []
  refine Qa2 (by kernel_rfl) ex0 (by kernel_rfl) ?_
  repeat' first | refine sp_ ?_ | exact ex0 | exact re0 []
  refine Qa2 (by kernel_rfl) ex0 (by kernel_rfl) ?_
  repeat' first | refine sp_ ?_ | exact ex0 | exact re0 []
end Go.Proofs.YthfocmakkeonoaaGreatDoor
