/- Remainders of bits, bursts, sums laid in a text: plain mathematics. -/
import Derived.Below
import Derived.WalkKit
import Derived.Test.YthfocmakkeonoaaGreatDoorQInz
import Derived.Test.YthfocmakkeonoaaGreatDoorKitz
import Derived.Test.YthfocmakkeonoaaGreatDoorRLz
import Derived.Test.YthfocmakkeonoaaGreatDoorExts1z
import Derived.Test.YthfocmakkeonoaaGreatDoorRPz
import Derived.Test.YthfocmakkeonoaaGreatDoorRPz
import Derived.Test.YthfocmakkeonoaaGreatDoorRPz
import Derived.Test.YthfocmakkeonoaaGreatDoorRVz
set_option linter.unusedVariables false
set_option linter.unusedSimpArgs false
set_option maxRecDepth 100000
set_option maxHeartbeats 16000000
namespace Go.Proofs.YthfocmakkeonoaaGreatDoor
def QoC:Nat:=79764919
def up (r:Nat):Nat:=((r <<< 1) % 2 ^ 32) ^^^ (if r.testBit 31=true then QoC else 0)
def QcZ (r:Nat) (b:Bool):Nat:=up r ^^^ b.toNat
def Qqm (l:List Bool):Nat:=l.foldl QcZ 0
theorem Qx2 (a b c:Nat):a ^^^ (b ^^^ c)=b ^^^ (a ^^^ c):=by rw [←Nat.xor_assoc,Nat.xor_comm a b,Nat.xor_assoc]
theorem Qqn (a b:Nat):a ^^^ (b ^^^ a)=b:=by rw [Nat.xor_comm b a,←Nat.xor_assoc,Nat.xor_self,Nat.zero_xor]
theorem Qni (a b:Nat):a ^^^ (a ^^^ b)=b:=by rw [←Nat.xor_assoc,Nat.xor_self,Nat.zero_xor]
theorem QzN:up 0=0:=by decide
theorem QCx (a b:Nat):up (a ^^^ b)=up a ^^^ up b:=by
 unfold up
 rw [Nat.shiftLeft_xor_distrib,Nat.xor_mod_two_pow,Nat.testBit_xor]
 generalize (a <<< 1) % 2 ^ 32=A
 generalize (b <<< 1) % 2 ^ 32=B
 cases a.testBit 31 <;> cases b.testBit 31 <;> simp [Nat.xor_assoc,Qx2,Nat.xor_comm,Qqn,Qni]
theorem Qto (r s:Nat) (x y:Bool):QcZ (r ^^^ s) (x ^^ y)=QcZ r x ^^^ QcZ s y:=by
 unfold QcZ
 rw [QCx]
 have:(x ^^ y).toNat=x.toNat ^^^ y.toNat:=by cases x <;> cases y <;> rfl
 rw [this]
 simp only [Nat.xor_assoc]
 rw [Qx2 (up s)]
theorem QoD:∀ (a b:List Bool) (r s:Nat),a.length=b.length→(List.zipWith Bool.xor a b).foldl QcZ (r ^^^ s)=a.foldl QcZ r ^^^ b.foldl QcZ s
 | [],[],r,s,_=>rfl
 | x::a,y::b,r,s,h=>by
  rw [List.zipWith_cons_cons,List.foldl_cons,List.foldl_cons,List.foldl_cons,Qto]
  exact QoD a b _ _ (by simpa using h)
theorem QzO (a b:List Bool) (h:a.length=b.length):Qqm (List.zipWith Bool.xor a b)=Qqm a ^^^ Qqm b:=QoD a b 0 0 h
theorem QzP (r:Nat):up r<4294967296:=by
 unfold up
 have h1:(r <<< 1) % 2 ^ 32<2 ^ 32:=Nat.mod_lt _ (by decide)
 have h2:(if r.testBit 31=true then QoC else 0)<2 ^ 32:=by split <;> decide
 exact Nat.xor_lt_two_pow h1 h2
theorem QwG (r:Nat) (b:Bool):QcZ r b<4294967296:=by
 unfold QcZ
 have h1:up r<2 ^ 32:=QzP r
 have h2:b.toNat<2 ^ 32:=by cases b <;> decide
 exact Nat.xor_lt_two_pow h1 h2
theorem Qnj:∀ (l:List Bool) (r:Nat),r<4294967296→l.foldl QcZ r<4294967296
 | [],r,h=>h
 | b::l,r,h=>by rw [List.foldl_cons];exact Qnj l _ (QwG r b)
theorem Qtp (l:List Bool):Qqm l<4294967296:=Qnj l 0 (by decide)
theorem Qtq (r:Nat) (h:r<4294967296):r.testBit 31=decide (2147483648≤r):=by
 rw [Nat.testBit_eq_decide_div_mod_eq]
 congr 1
 apply propext
 have:2 ^ 31=2147483648:=by decide
 rw [this]
 omega
theorem QkB (r:Nat) (h:r<2147483648):up r=2 * r:=by
 unfold up
 rw [Qtq r (by omega),if_neg (by simp;omega),Nat.xor_zero,Nat.shiftLeft_eq]
 omega
def upN:Nat→Nat→Nat
 | 0,r=>r
 | n+1,r=>upN n (up r)
theorem Qnk (r:Nat):QcZ r false=up r:=Nat.xor_zero _
theorem QgI:∀ (n r:Nat),(List.replicate n false).foldl QcZ r=upN n r
 | 0,r=>rfl
 | n+1,r=>by
  rw [List.replicate_succ,List.foldl_cons,QgI n,Qnk]
  rfl
theorem QoE:∀ n,upN n 0=0
 | 0=>rfl
 | n+1=>by unfold upN;rw [QzN];exact QoE n
theorem QzQ (a:Nat) (b:Bool):(2 * a) ^^^ b.toNat=2 * a+b.toNat:=by
 cases b with
 | false=>simp
 | true=>
  apply Nat.eq_of_testBit_eq
  intro i
  rw [Nat.testBit_xor]
  cases i with
  | zero=>simp [Nat.testBit_zero]
  | succ i=>
   rw [Nat.testBit_succ,Nat.testBit_succ,Nat.testBit_succ]
   have h1:2 * a / 2=a:=by omega
   have h2:(2 * a+true.toNat) / 2=a:=by simp;omega
   have h3:true.toNat / 2=0:=by decide
   rw [h1,h2,h3];simp
theorem QwH:∀ (l:List Bool) (k r:Nat),r<2 ^ k→k+l.length≤32→l.foldl QcZ r=l.foldl (fun n b=>2 * n+b.toNat) r
 | [],k,r,_,_=>rfl
 | b::l,k,r,hr,hk=>by
  rw [List.length_cons] at hk
  have h1:2 ^ k≤2 ^ 31:=Nat.pow_le_pow_right (by decide) (by omega)
  have h2:(2:Nat) ^ 31=2147483648:=by decide
  have h3:QcZ r b=2 * r+b.toNat:=by
   unfold QcZ
   rw [QkB r (by omega),QzQ]
  rw [List.foldl_cons,List.foldl_cons,h3]
  refine QwH l (k+1) _ ?_ (by omega)
  have:b.toNat≤1:=by cases b <;> decide
  rw [Nat.pow_succ]
  omega
def Qf3 (b:UInt8):List Bool:=[b.toNat.testBit 7,b.toNat.testBit 6,b.toNat.testBit 5,b.toNat.testBit 4,b.toNat.testBit 3,b.toNat.testBit 2,b.toNat.testBit 1,b.toNat.testBit 0]
def QbK (l:List UInt8):List Bool:=l.flatMap Qf3
def rem (l:List UInt8):Nat:=Qqm (QbK l)
theorem QiG (l:List UInt8):(QbK l).length=8 * l.length:=by
 induction l with
 | nil=>rfl
 | cons b l ih=>
  unfold QbK at ih ⊢
  rw [List.flatMap_cons,List.length_append,ih]
  simp [Qf3];omega
theorem Qem (a b:List UInt8):QbK (a++b)=QbK a++QbK b:=by unfold QbK;simp
def Qtr (r:Nat):Nat:=if r % 2=1 then (r ^^^ QoC) / 2+2147483648 else r / 2
theorem QzR (x:Nat) (h:x<2147483648):up (x+2147483648)=(2 * x) ^^^ QoC:=by
 have h1:(x+2147483648).testBit 31=true:=by
  rw [Qtq _ (by omega)]
  exact decide_eq_true (by omega)
 have h2:((x+2147483648) <<< 1) % 2 ^ 32=2 * x:=by
  rw [Nat.shiftLeft_eq]
  omega
 unfold up
 rw [h2,if_pos h1]
theorem QzS (r:Nat) (h:r % 2=1):(r ^^^ QoC) % 2=0:=by
 have h1:(r ^^^ QoC).testBit 0=false:=by
  rw [Nat.testBit_xor,Nat.testBit_zero,Nat.testBit_zero,h]
  rfl
 rw [Nat.testBit_zero] at h1
 have:=of_decide_eq_false h1
 omega
theorem QzT (r:Nat) (h:r<4294967296):up (Qtr r)=r:=by
 unfold Qtr
 by_cases h1:r % 2=1
 ·rw [if_pos h1]
  have h2:(r ^^^ QoC)<2 ^ 32:=Nat.xor_lt_two_pow (by omega) (by decide)
  have h3:=QzS r h1
  rw [QzR _ (by omega),show 2 * ((r ^^^ QoC) / 2)=r ^^^ QoC by omega,Nat.xor_assoc,Nat.xor_self,Nat.xor_zero]
 ·rw [if_neg h1,QkB _ (by omega)]
  omega
theorem QzU (r:Nat) (h:r<4294967296):Qtr r<4294967296:=by
 unfold Qtr
 have h2:(r ^^^ QoC)<2 ^ 32:=Nat.xor_lt_two_pow (by omega) (by decide)
 split <;> omega
def QgJ:Nat→Nat→Nat
 | 0,r=>r
 | n+1,r=>Qtr (QgJ n r)
theorem Qhx:∀ (n r:Nat),r<4294967296→QgJ n r<4294967296
 | 0,r,h=>h
 | n+1,r,h=>QzU _ (Qhx n r h)
theorem QlY:∀ (n r:Nat),r<4294967296→upN n (QgJ n r)=r
 | 0,r,_=>rfl
 | n+1,r,h=>by
  unfold upN QgJ
  rw [QzT _ (Qhx n r h)]
  exact QlY n r h
end Go.Proofs.YthfocmakkeonoaaGreatDoor
namespace Go.Proofs.YthfocmakkeonoaaGreatDoor
theorem QGi (n:Nat) (b:UInt8):(Qf3 b).foldl (fun n b=>2 * n+b.toNat) n=256 * n+b.toNat:=by
 have hb:=b.toNat_lt
 simp only [Qf3,List.foldl_cons,List.foldl_nil,Nat.toNat_testBit]
 omega
theorem QFv:∀ (l:List UInt8) (n:Nat),(QbK l).foldl (fun n b=>2 * n+b.toNat) n=l.foldl (fun n b=>256 * n+b.toNat) n
 | [],n=>rfl
 | b::l,n=>by
  have e:QbK (b::l)=Qf3 b++QbK l:=rfl
  rw [e,List.foldl_append,QGi,List.foldl_cons]
  exact QFv l _
theorem Qts (l:List UInt8) (h:l.length=4):Qqm (QbK l)=QaP l:=by
 unfold Qqm
 rw [QwH _ 0 0 (by decide) (by rw [QiG];omega),QFv]
 rfl
theorem QiH:∀ (l:List Bool),List.zipWith Bool.xor l (List.replicate l.length false)=l
 | []=>rfl
 | b::l=>by
  rw [List.length_cons,List.replicate_succ,List.zipWith_cons_cons,QiH l,Bool.xor_false]
theorem QlZ:∀ (l:List Bool),List.zipWith Bool.xor (List.replicate l.length false) l=l
 | []=>rfl
 | b::l=>by
  rw [List.length_cons,List.replicate_succ,List.zipWith_cons_cons,QlZ l,Bool.false_xor]
def QcV (h t:List UInt8):List UInt8:=QaK (QgJ (8 * t.length) (rem (h++[0,0,0,0]++t)):Nat) 4
def Qf4 (h t:List UInt8):List UInt8:=h++QcV h t++t
theorem QgK (h t:List UInt8):(QcV h t).length=4:=Qaj _ 4
theorem Qtt (h t:List UInt8):rem (Qf4 h t)=0:=by
 obtain ⟨R,hR⟩:∃ R,R=rem (h++[0,0,0,0]++t):=⟨_,rfl⟩
 have hRl:R<4294967296:=by rw [hR];exact Qtp _
 obtain ⟨r,hr⟩:∃ r,r=QgJ (8 * t.length) R:=⟨_,rfl⟩
 have hrl:r<4294967296:=by rw [hr];exact Qhx _ _ hRl
 have hup:upN (8 * t.length) r=R:=by rw [hr];exact QlY _ _ hRl
 have hf:QcV h t=QaK (r:Nat) 4:=by unfold QcV;rw [←hR,←hr]
 have hfl:=QgK h t
 have hfr:Qqm (QbK (QcV h t))=r:=by
  rw [Qts _ hfl,hf]
  have:=Qiz (r:Int) 4
  have e:(r:Int) % 256 ^ 4=r:=Int.emod_eq_of_lt (by omega) (by
   have:(256:Int) ^ 4=4294967296:=by decide
   omega)
  rw [e] at this
  exact Int.ofNat.inj this
 have hz4:QbK [0,0,0,0]=List.replicate 32 false:=by decide
 have hl4:(QbK (QcV h t)).length=32:=by rw [QiG,hfl]
 have hx:=QzO (QbK h++QbK [0,0,0,0]++QbK t) (List.replicate (QbK h).length false++QbK (QcV h t)++List.replicate (QbK t).length false) (by
  simp only [List.length_append,List.length_replicate,hl4,hz4])
 rw [List.zipWith_append (by simp only [List.length_append,List.length_replicate,hl4,hz4]),List.zipWith_append (by simp),QiH,QiH,hz4] at hx
 have e1:List.zipWith Bool.xor (List.replicate 32 false) (QbK (QcV h t))=QbK (QcV h t):=by
  have:=QlZ (QbK (QcV h t))
  rwa [hl4] at this
 rw [e1] at hx
 have e2:Qqm (List.replicate (QbK h).length false++QbK (QcV h t)++List.replicate (QbK t).length false)=R:=by
  unfold Qqm
  rw [List.foldl_append,List.foldl_append,QgI,QgI,QoE,QiG t]
  show upN (8 * t.length) (Qqm (QbK (QcV h t)))=R
  rw [hfr,hup]
 have e3:Qqm (QbK h++List.replicate 32 false++QbK t)=R:=by
  rw [hR]
  unfold rem
  rw [Qem,Qem,hz4]
 rw [e2,e3,Nat.xor_self] at hx
 unfold rem Qf4
 rw [Qem,Qem]
 exact hx
theorem Qf5 (a:Nat) (h:a<4294967296):(BitVec.ofInt 32 (a:Int)).toNat=a:=by
 rw [BitVec.toNat_ofInt]
 omega
theorem Qnl (a b:Nat) (ha:a<4294967296) (hb:b<4294967296):bits .xor .u32 (a:Int) (b:Int)=((a ^^^ b:Nat):Int):=by
 have h:a ^^^ b<2 ^ 32:=Nat.xor_lt_two_pow ha hb
 show IntKind.u32.wrap ((BitVec.ofInt 32 (a:Int) ^^^ BitVec.ofInt 32 (b:Int)).toNat:Int)=_
 rw [BitVec.toNat_xor,Qf5 a ha,Qf5 b hb]
 exact QhI _ (by omega) (by omega)
theorem Qtu (a b:Nat) (ha:a<4294967296) (hb:b<4294967296):bits .and .u32 (a:Int) (b:Int)=((a &&& b:Nat):Int):=by
 have h:a &&& b≤a:=Nat.and_le_left
 show IntKind.u32.wrap ((BitVec.ofInt 32 (a:Int) &&& BitVec.ofInt 32 (b:Int)).toNat:Int)=_
 rw [BitVec.toNat_and,Qf5 a ha,Qf5 b hb]
 exact QhI _ (by omega) (by omega)
theorem QzV (r:Nat) (h:r<4294967296):(bits .and .u32 (r:Int) 2147483648 != 0)=r.testBit 31:=by
 rw [show (2147483648:Int)=((2147483648:Nat):Int) from rfl,Qtu r 2147483648 h (by decide),Qtq r h]
 have e:r &&& 2147483648=if 2147483648≤r then 2147483648 else 0:=by
  apply Nat.eq_of_testBit_eq
  intro i
  have hp:(2147483648:Nat)=2 ^ 31:=by decide
  rw [Nat.testBit_and]
  have h2:(2147483648:Nat).testBit i=decide (i=31):=by rw [hp,Nat.testBit_two_pow];exact decide_eq_decide.2 ⟨fun h=>h.symm,fun h=>h.symm⟩
  rw [h2]
  by_cases hi:i=31
  ·subst hi
   rw [Qtq r h]
   by_cases hr:2147483648≤r
   ·rw [if_pos hr,h2,decide_eq_true hr];rfl
   ·rw [if_neg hr,decide_eq_false hr];simp
  ·rw [decide_eq_false hi,Bool.and_false]
   split
   ·rw [h2,decide_eq_false hi]
   ·simp
 rw [e]
 by_cases hr:2147483648≤r
 ·rw [if_pos hr,decide_eq_true hr];rfl
 ·rw [if_neg hr,decide_eq_false hr];rfl
theorem QzW (r:Nat) (h:r<4294967296):(bits .and .u32 (r:Int) 1 != 0)=decide (r % 2=1):=by
 rw [show (1:Int)=((1:Nat):Int) from rfl,Qtu r 1 h (by decide),Nat.and_one_is_mod]
 by_cases hr:r % 2=1
 ·rw [decide_eq_true hr,hr];rfl
 ·rw [decide_eq_false hr,show r % 2=0 by omega];rfl
theorem QGj (r:Nat) (h:r<4294967296) (hb:r.testBit 31=true):bits .xor .u32 (IntKind.u32.wrap ((r:Int) * 2)) 79764919=((up r:Nat):Int):=by
 have e:IntKind.u32.wrap ((r:Int) * 2)=(((r <<< 1) % 2 ^ 32:Nat):Int):=by
  rw [IntKind.wrap_u32,Nat.shiftLeft_eq];omega
 rw [e,show (79764919:Int)=((79764919:Nat):Int) from rfl,Qnl _ _ (Nat.mod_lt _ (by decide)) (by decide)]
 unfold up
 rw [if_pos hb]
 rfl
theorem QGk (r:Nat) (h:r<4294967296) (hb:r.testBit 31=false):(r:Int) * 2=((up r:Nat):Int):=by
 rw [Qtq r h] at hb
 have:=of_decide_eq_false hb
 rw [QkB r (by omega)]
 omega
theorem QCy (r:Nat) (h:r<4294967296) (hb:r % 2=1):bits .or .u32 (bits .xor .u32 (r:Int) 79764919 / 2) 2147483648=((Qtr r:Nat):Int):=by
 have h2:(r ^^^ QoC)<2 ^ 32:=Nat.xor_lt_two_pow (by omega) (by decide)
 rw [show (79764919:Int)=((QoC:Nat):Int) from rfl,Qnl r QoC h (by decide)]
 unfold Qtr
 rw [if_pos hb]
 generalize r ^^^ QoC=x at *
 have e:bits .or .u32 (2147483648:Int) (((x:Int)) / 2)=2147483648+(x:Int) / 2:=QnP 31 _ _ (by omega) (by decide) (by omega) (by omega) (by omega) (by omega)
 have ec:bits .or .u32 ((x:Int) / 2) 2147483648=bits .or .u32 2147483648 ((x:Int) / 2):=by
  show IntKind.u32.wrap ((BitVec.ofInt 32 ((x:Int) / 2) ||| BitVec.ofInt 32 2147483648).toNat:Int)=IntKind.u32.wrap ((BitVec.ofInt 32 2147483648 ||| BitVec.ofInt 32 ((x:Int) / 2)).toNat:Int)
  rw [BitVec.or_comm]
 rw [ec,e]
 omega
theorem QCz (r:Nat) (hb:¬r % 2=1):(r:Int) / 2=((Qtr r:Nat):Int):=by
 unfold Qtr
 rw [if_neg hb]
 omega
end Go.Proofs.YthfocmakkeonoaaGreatDoor
namespace Go.Proofs.YthfocmakkeonoaaGreatDoor
open Go.RowKit
theorem QCA (r:Nat) (h:r<4294967296):Qan Tryz.prog 167 [.ca (.val (vu r))] [] (.ca (.val (vu (up r)))) []:=by
 have hb:=QzV r h
 cases ht:r.testBit 31 with
 | true=>
  rw [ht] at hb
  have hb2:(bits .and .u32 (r:Int) 2147483648 == 0)=false:=by simpa [bne] using hb
  have e:=QGj r h ht
  refine Qaa Tryz.func167 rfl Tryz.ntmps167 Tryz.results167 ⟨by decide,by simp⟩ fun C hC=>?_
  repeat first | refine sp_ ?_ | exact ex0
  simp only [hb,hb2]
  repeat first | refine sp_ ?_ | exact ex0
  (refine Qap [] ?_;simp (decide:=true) (disch:=omega) only [go_sem,↓reduceIte,↓Qad])
  exact e
 | false=>
  rw [ht] at hb
  have hb2:(bits .and .u32 (r:Int) 2147483648 == 0)=true:=by simpa [bne] using hb
  have e:=QGk r h ht
  have hl:=QzP r
  refine Qaa Tryz.func167 rfl Tryz.ntmps167 Tryz.results167 ⟨by decide,by simp⟩ fun C hC=>?_
  repeat first | refine sp_ ?_ | exact ex0
  simp only [hb,hb2]
  repeat first | refine sp_ ?_ | exact ex0
  (refine Qap [] ?_;simp (decide:=true) (disch:=omega) only [go_sem,↓reduceIte,↓Qad])
  exact e
theorem QwI (r:Nat) (h:r<4294967296):Qan Tryz.prog 54 [.ca (.val (vu r))] [] (.ca (.val (vu (Qtr r)))) []:=by
 have hb:=QzW r h
 by_cases ht:r % 2=1
 ·rw [decide_eq_true ht] at hb
  have hb2:(bits .and .u32 (r:Int) 1 == 0)=false:=by simpa [bne] using hb
  have e:=QCy r h ht
  refine Qaa Tryz.func54 rfl Tryz.ntmps54 Tryz.results54 ⟨by decide,by simp⟩ fun C hC=>?_
  repeat first | refine sp_ ?_ | exact ex0
  simp only [hb,hb2]
  repeat first | refine sp_ ?_ | exact ex0
  (refine Qap [] ?_;simp (decide:=true) (disch:=omega) only [go_sem,↓reduceIte,↓Qad])
  exact e
 ·rw [decide_eq_false ht] at hb
  have hb2:(bits .and .u32 (r:Int) 1 == 0)=true:=by simpa [bne] using hb
  have e:=QCz r ht
  refine Qaa Tryz.func54 rfl Tryz.ntmps54 Tryz.results54 ⟨by decide,by simp⟩ fun C hC=>?_
  repeat first | refine sp_ ?_ | exact ex0
  simp only [hb,hb2]
  repeat first | refine sp_ ?_ | exact ex0
  (refine Qap [] ?_;simp (decide:=true) (disch:=omega) only [go_sem,↓reduceIte,↓Qad])
  exact e
def Bv (b:UInt8) (j:Nat):Nat:=b.toNat * 2 ^ j % 256
theorem QzX (b:UInt8) (j:Nat):Bv b (j+1)=Bv b j * 2 % 256:=by
 unfold Bv
 rw [Nat.pow_succ,←Nat.mul_assoc]
 omega
theorem QCB (b:UInt8) (j:Nat) (h:j<8):Bv b j / 128=(b.toNat.testBit (7-j)).toNat:=by
 have hb:=b.toNat_lt
 rw [Nat.toNat_testBit]
 unfold Bv
 have:j=0∨j=1∨j=2∨j=3∨j=4∨j=5∨j=6∨j=7:=by omega
 rcases this with rfl | rfl | rfl | rfl | rfl | rfl | rfl | rfl <;> omega
theorem Qqo (b:UInt8) (j:Nat) (h:j<8):(Qf3 b).take (j+1)=(Qf3 b).take j++[b.toNat.testBit (7-j)]:=by
 have:j=0∨j=1∨j=2∨j=3∨j=4∨j=5∨j=6∨j=7:=by omega
 rcases this with rfl | rfl | rfl | rfl | rfl | rfl | rfl | rfl <;> rfl
theorem QzY (r:Nat) (b:UInt8) (h:r<4294967296):Qan Tryz.prog 112 [.ca (.val (vu r)),.ca (.val (.sc (.int .u8 b.toNat)))] [] (.ca (.val (vu (((Qf3 b).foldl QcZ r:Nat):Int)))) []:=by
 have hb:=b.toNat_lt
 refine Qaa Tryz.func112 rfl Tryz.ntmps112 Tryz.results112 ⟨by decide,by simp⟩ fun C hC=>?_
 repeat first | refine sp_ ?_ | exact ex0
 refine QaD (α:={j:Nat // j≤8}) (fun j=>[(.s 0,.av (.val (vu ((((Qf3 b).take j.1).foldl QcZ r:Nat):Int)))),(.s 1,.av (.val (.sc (.int .u8 (Bv b j.1))))),(.s 5,.av (.val (vi j.1)))]) (fun j=>8-j.1) ⟨0,by decide⟩ ?_ (fun j=>?_)
 ·have e:Bv b 0=b.toNat:=by unfold Bv;omega
  rw [e]
  refine sx_ ?_
  rfl
 ·obtain ⟨j,hj⟩:=j
  dsimp only at hj ⊢
  have hR:=Qnj ((Qf3 b).take j) r h
  by_cases hlt:j<8
  ·have hs:=Qqo b j hlt
   have hbt:=QCB b j hlt
   have hsc:=QzX b j
   have hv:Bv b j<256:=Nat.mod_lt _ (by decide)
   generalize hRR:((Qf3 b).take j).foldl QcZ r=R at *
   have hst:QcZ R (b.toNat.testBit (7-j))=up R ^^^ (Bv b j / 128):=by rw [hbt];rfl
   have hx:=Qnl (up R) (Bv b j / 128) (QzP R) (by omega)
   have hc:((Bv b j / 128:Nat):Int)=(Bv b j:Int) / 128:=by omega
   rw [hc,←hst] at hx
   repeat first | refine sp_ ?_ | exact ex0
   refine Qac Tryz.call167 (QCA R hR) [] ?_
   repeat first | refine sp_ ?_ | exact ex0
   simp only [hx]
   refine Qau (α:={j:Nat // j≤8}) ⟨j+1,hlt⟩ ⟨?_,by dsimp only;omega⟩
   rw [hs,List.foldl_append,hRR,hsc]
   refine sx_ ?_
   exact ⟨rfl,by rw [IntKind.wrap_u8];omega⟩
  ·obtain rfl:j=8:=by omega
   repeat first | refine sp_ ?_ | exact ex0
   (refine Qap [] ?_;simp (decide:=true) (disch:=omega) only [go_sem,↓reduceIte,↓Qad])
   rfl
theorem QwJ (l:List UInt8) (b:UInt8):rem (l++[b])=(Qf3 b).foldl QcZ (rem l):=by
 unfold rem
 rw [Qem]
 unfold Qqm
 rw [List.foldl_append]
 have:QbK [b]=Qf3 b:=by simp [QbK]
 rw [this]
theorem Qtv (ls:List (List UInt8)) (hl:ls.length≤maxLen) (hd:∀ l∈ls,l.length≤maxLen):Qan Tryz.prog 53 [.ca (.val (.lst 1 (ls.map Qp8)))] [] (.ca (.val (vu (rem ls.flatten)))) []:=by
 unfold maxLen at hl
 refine Qaa Tryz.func53 rfl Tryz.ntmps53 Tryz.results53 ⟨by decide,by simp⟩ fun C hC=>?_
 repeat first | refine sp_ ?_ | exact ex0
 refine QaD (α:={j:Nat // j≤ls.length}) (fun j=>[(.s 3,.av (.val (vu (rem (ls.take j.1).flatten)))),(.s 7,.av (.val (.lst 1 (ls.map Qp8)))),(.s 8,.av (.val (vi ls.length))),(.s 9,.av (.val (vi j.1)))]) (fun j=>ls.length-j.1) ⟨0,Nat.zero_le _⟩ ?_ (fun j=>?_)
 ·have e:rem (ls.take 0).flatten=0:=rfl
  rw [e]
  exact ex0
 ·obtain ⟨j,hj⟩:=j
  dsimp only at hj ⊢
  by_cases hlt:j<ls.length
  ·have hs:ls.take (j+1)=ls.take j++[ls[j]]:=List.take_succ_eq_append_getElem hlt
   have hlj:=hd _ (List.getElem_mem hlt)
   unfold maxLen at hlj
   have hfl:(ls.take (j+1)).flatten=(ls.take j).flatten++ls[j]:=by rw [hs,List.flatten_append,List.flatten_singleton]
   (repeat ((fail_if_success (refine Qat 6 ?_));(first | refine sp_ ?_ | exact ex0)))
   generalize hL:ls[j]=L at *
   refine QaD (α:={i:Nat // i≤L.length}) (fun i=>[(.s 3,.av (.val (vu (rem ((ls.take j).flatten++L.take i.1))))),(.s 5,.av (.val (vs L))),(.s 7,.av (.val (.lst 1 (ls.map Qp8)))),(.s 8,.av (.val (vi ls.length))),(.s 9,.av (.val (vi j))),(.s 14,.av (.val (vi L.length))),(.s 15,.av (.val (vi i.1)))]) (fun i=>L.length-i.1) ⟨0,Nat.zero_le _⟩ ?_ (fun i=>?_)
   ·rw [List.take_zero,List.append_nil]
    exact ex0
   ·obtain ⟨i,hi⟩:=i
    dsimp only at hi ⊢
    by_cases hlt2:i<L.length
    ·have hs2:L.take (i+1)=L.take i++[L[i]]:=List.take_succ_eq_append_getElem hlt2
     have hR:=Qtp (QbK ((ls.take j).flatten++L.take i))
     have hg:L.getD i 0=L[i]:=by simp [hlt2]
     have c1:=QzY (rem ((ls.take j).flatten++L.take i)) L[i] hR
     have e1:rem ((ls.take j).flatten++L.take (i+1))=(Qf3 L[i]).foldl QcZ (rem ((ls.take j).flatten++L.take i)):=by rw [hs2,←List.append_assoc,QwJ]
     rw [←e1] at c1
     repeat first | refine sp_ ?_ | exact ex0
     simp only [hg]
     refine Qac Tryz.call112 c1 [] ?_
     repeat first | refine sp_ ?_ | exact ex0
     refine Qau (α:={i:Nat // i≤L.length}) ⟨i+1,hlt2⟩ ⟨?_,by dsimp only;omega⟩
     exact ex0
    ·have hi2:L.take i=L:=List.take_of_length_le (by omega)
     rw [hi2,←hfl]
     repeat first | refine sp_ ?_ | exact ex0
     refine Qau (α:={j:Nat // j≤ls.length}) ⟨j+1,hlt⟩ ⟨?_,by dsimp only;omega⟩
     exact ex0
  ·have hj2:ls.take j=ls:=List.take_of_length_le (by omega)
   rw [hj2]
   repeat first | refine sp_ ?_ | exact ex0
   exact re0 []
theorem Qtw (s:List UInt8) (hl:s.length≤maxLen):Qan Tryz.prog 61 [.ca (.val (vs s))] [] (.ca (.val (vb (decide (rem s=0))))) []:=by
 have c:=Qtv [s] (by unfold maxLen;simp) (fun l hl2=>by simp at hl2;subst hl2;exact hl)
 have e:[s].flatten=s:=by simp
 rw [e] at c
 refine Qaa Tryz.func61 rfl Tryz.ntmps61 Tryz.results61 ⟨by decide,by simp⟩ fun C hC=>?_
 by_cases h:rem s=0
 ·rw [decide_eq_true h]
  repeat first | refine sp_ ?_ | exact ex0
  refine Qac Tryz.call53 c [] ?_
  repeat first | refine sp_ ?_ | exact ex0
  exact re0 []
 ·rw [decide_eq_false h]
  repeat first | refine sp_ ?_ | exact ex0
  refine Qac Tryz.call53 c [] ?_
  repeat first | refine sp_ ?_ | exact ex0
  exact re0 []
theorem Qtx (r:Nat) (h:r<4294967296):[[V.sc (.int .u8 ((r:Int) / 16777216))],[V.sc (.int .u8 (IntKind.u8.wrap ((r:Int) / 65536)))],[V.sc (.int .u8 (IntKind.u8.wrap ((r:Int) / 256)))],[V.sc (.int .u8 (IntKind.u8.wrap (r:Int)))]]=(QaK (r:Int) 4).map QaG:=by
 have e:IntKind.u8.wrap ((r:Int) / 16777216)=(r:Int) / 16777216:=wrap_u8 (by omega) (by omega)
 have h1:=Qed ((r:Int) / 16777216)
 rw [e] at h1
 rw [h1,Qed,Qed,Qed]
 unfold QaK QaK QaK QaK QaK
 simp
def Qhb (s:List UInt8) (a:Int):Bool:=decide (0≤a∧a≤(s.length:Int)-4)
def Qqp (s:List UInt8) (a:Int):List UInt8:=if Qhb s a=true then Qf4 (s.take a.toNat) (s.drop (a.toNat+4)) else []
theorem QoF (s:List UInt8) (a:Int) (hl:s.length≤1099511627776):Qan Tryz.prog 23 [.ca (.val (vs s)),.ca (.val (vi a))] [] (.ca (.val (.tup [vs (Qqp s a),vb (Qhb s a)]))) []:=by
 unfold Qqp
 by_cases h1:0≤a
 ·by_cases h2:a≤(s.length:Int)-4
  ·have ho:Qhb s a=true:=decide_eq_true ⟨h1,h2⟩
   rw [ho,if_pos rfl]
   obtain ⟨n,rfl⟩:∃ n:Nat,a=n:=⟨a.toNat,by omega⟩
   obtain ⟨H,hH⟩:∃ H,H=s.take n:=⟨_,rfl⟩
   obtain ⟨T,hT⟩:∃ T,T=s.drop (n+4):=⟨_,rfl⟩
   have hHl:H.length=n:=by rw [hH,List.length_take];omega
   have hTl:T.length=s.length-(n+4):=by rw [hT,List.length_drop]
   have c1:=Qtv [H,[0,0,0,0],T] (by unfold maxLen;simp) (fun l hl2=>by
    unfold maxLen
    simp at hl2
    rcases hl2 with rfl | rfl | rfl
    ·omega
    ·simp
    ·omega)
   have e1:[H,[0,0,0,0],T].flatten=H++[0,0,0,0]++T:=by simp
   rw [e1] at c1
   have en:((n:Int)).toNat=n:=by omega
   have en4:((n:Int)+4).toNat=n+4:=by omega
   rw [Int.toNat_natCast,←hH,←hT]
   refine Qaa Tryz.func23 rfl Tryz.ntmps23 Tryz.results23 ⟨by decide,by simp⟩ fun C hC=>?_
   repeat first | refine sp_ ?_ | exact ex0
   simp only [en4,←hH,←hT]
   refine Qac Tryz.call53 c1 [] ?_
   obtain ⟨R,hR⟩:∃ R,R=rem (H++[0,0,0,0]++T):=⟨_,rfl⟩
   have hRl:R<4294967296:=by rw [hR];exact Qtp _
   have hfb:QcV H T=QaK ((QgJ (8 * T.length) R:Nat):Int) 4:=by unfold QcV;rw [hR]
   rw [←hR]
   repeat first | refine sp_ ?_ | exact ex0
   refine QaD (α:={k:Nat // k≤8 * T.length}) (fun k=>[(.s 6,.av (.val (vs H))),(.s 7,.av (.val (vs T))),(.s 8,.av (.val (vu (QgJ k.1 R:Nat)))),(.s 32,.av (.val (vi (8 * T.length:Nat)))),(.s 33,.av (.val (vi k.1)))]) (fun k=>8 * T.length-k.1) ⟨0,Nat.zero_le _⟩ ?_ (fun k=>?_)
   ·have e0:QgJ 0 R=R:=rfl
    rw [e0]
    refine sx_ ?_
    omega
   ·obtain ⟨k,hk⟩:=k
    dsimp only at hk ⊢
    have hdl:=Qhx k R hRl
    by_cases hlt:k<8 * T.length
    ·have hds:QgJ (k+1) R=Qtr (QgJ k R):=rfl
     repeat first | refine sp_ ?_ | exact ex0
     refine Qac Tryz.call54 (QwI (QgJ k R) hdl) [] ?_
     repeat first | refine sp_ ?_ | exact ex0
     refine Qau (α:={k:Nat // k≤8 * T.length}) ⟨k+1,hlt⟩ ⟨?_,by dsimp only;omega⟩
     rw [hds]
     exact ex0
    ·obtain rfl:k=8 * T.length:=by omega
     generalize QgJ (8 * T.length) R=r at *
     have hz:=Qaj (r:Int) 4
     have hfe:=Qtx r hdl
     repeat first | refine sp_ ?_ | exact ex0
     simp only [hfe]
     refine Qkl (QaK (r:Int) 4) ex0 ex0 ex0 ?_
     repeat first | refine sp_ ?_ | exact ex0
     (refine Qap [] ?_;simp (decide:=true) (disch:=omega) only [go_sem,↓reduceIte,↓Qad])
     unfold Qf4
     rw [hfb]
     all_goals (try simp)
  ·have ho:Qhb s a=false:=decide_eq_false (fun h=>h2 h.2)
   rw [ho,if_neg (by decide)]
   refine Qaa Tryz.func23 rfl Tryz.ntmps23 Tryz.results23 ⟨by decide,by simp⟩ fun C hC=>?_
   repeat first | refine sp_ ?_ | exact ex0
   exact re0 []
 ·have ho:Qhb s a=false:=decide_eq_false (fun h=>h1 h.1)
  rw [ho,if_neg (by decide)]
  refine Qaa Tryz.func23 rfl Tryz.ntmps23 Tryz.results23 ⟨by decide,by simp⟩ fun C hC=>?_
  repeat first | refine sp_ ?_ | exact ex0
  exact re0 []
end Go.Proofs.YthfocmakkeonoaaGreatDoor
namespace Go.Proofs.YthfocmakkeonoaaGreatDoor
open Go.RowKit
structure M6 where
 src:Int
 seq:Int
 time:Int
 path:Int
 pseq:Int
 idx:Int
 cnt:Int
 data:List UInt8
 deriving DecidableEq
def no6:M6:=⟨0,0,0,0,0,0,0,[]⟩
structure M6.Ok (m:M6):Prop where
 src:0≤m.src∧m.src<4294967296
 seq:0≤m.seq∧m.seq<65536
 time:0≤m.time∧m.time<4294967296
 pseq:0≤m.pseq∧m.pseq<65536
def QoG (m:M6):Bool:=decide ((1≤m.path∧m.path≤15)∧(1≤m.cnt∧m.cnt≤255)∧(0≤m.idx∧m.idx<m.cnt)∧m.data.length≤1472)
theorem QkC (m:M6):QoG m=true↔((1≤m.path∧m.path≤15)∧(1≤m.cnt∧m.cnt≤255)∧(0≤m.idx∧m.idx<m.cnt)∧m.data.length≤1472):=by unfold QoG;rw [decide_eq_true_eq]
def QjN (m:M6) (F:List UInt8):List E5:=[⟨1,QaK m.path 1++QaK m.pseq 2⟩,⟨2,QaK m.idx 1++QaK m.cnt 1⟩,⟨3,F⟩]
def pk6 (m:M6) (F:List UInt8):P4:=⟨decide (m.idx=m.cnt-1),96,m.seq,m.time,m.src,[],true,48862,Qcp 1 (QjN m F),m.data,0⟩
def Qfk (m:M6):List UInt8:=Qah 1 [144,96+(if m.idx=m.cnt-1 then 128 else 0)]++Qah 2 [m.seq]++Qah 4 [m.time,m.src]++Qah 2 [48862,3]++QaK 18 1++(QaK m.path 1++QaK m.pseq 2)++QaK 33 1++(QaK m.idx 1++QaK m.cnt 1)++QaK 51 1
theorem Qdu (m:M6):(Qfk m).length=24:=by
 unfold Qfk
 simp only [List.length_append,Qai,Qaj,List.length_cons,List.length_nil]
theorem QFw (m:M6) (F:List UInt8) (hF:F.length=4):Qcp 1 (QjN m F)=QaK 18 1++(QaK m.path 1++QaK m.pseq 2)++QaK 33 1++(QaK m.idx 1++QaK m.cnt 1)++QaK 51 1++F:=by
 have e:Qek 1 (QjN m F)=QaK 18 1++(QaK m.path 1++QaK m.pseq 2)++QaK 33 1++(QaK m.idx 1++QaK m.cnt 1)++QaK 51 1++F:=by
  unfold Qek QjN
  simp only [List.flatMap_cons,List.flatMap_nil,QeQ,Qej,if_true,List.length_append,Qaj,hF,List.append_nil]
  have h1:(16 * 1+((1+2:Nat):Int)-1)=18:=by omega
  have h2:(16 * 2+((1+1:Nat):Int)-1)=33:=by omega
  have h3:(16 * 3+((4:Nat):Int)-1)=51:=by omega
  rw [h1,h2,h3]
  simp only [List.append_assoc]
 unfold Qcp
 rw [e]
 have hl:(QaK 18 1++(QaK m.path 1++QaK m.pseq 2)++QaK 33 1++(QaK m.idx 1++QaK m.cnt 1)++QaK 51 1++F).length=12:=by
  simp only [List.length_append,Qaj,hF]
 rw [hl]
 have:QiD (Qq5 12)=[]:=rfl
 rw [this,List.append_nil]
theorem Qf6 (m:M6) (F:List UInt8) (hF:F.length=4):(Qcp 1 (QjN m F)).length=12:=by
 rw [QFw m F hF]
 simp only [List.length_append,Qaj,hF]
theorem QCC (m:M6) (F:List UInt8) (hF:F.length=4):QeP (pk6 m F)=Qfk m++F++m.data:=by
 have hl:=Qf6 m F hF
 have hx:=QFw m F hF
 unfold QeP QjJ Qc7 QbQ pk6
 dsimp only
 rw [hl,hx]
 unfold Qfk
 have e1:(128+(([]:List Int).length:Int)+(if true=true then 16 else 0)+(if (0:Int)<0 then 32 else 0))=144:=by simp
 have e2:(96+(if decide (m.idx=m.cnt-1)=true then (128:Int) else 0))=96+(if m.idx=m.cnt-1 then 128 else 0):=by simp
 have e3:QbD 0=[]:=rfl
 have e4:Qah 4 []=[]:=rfl
 have e5:((12 / 4:Nat):Int)=3:=rfl
 rw [e1,e2,e3,e4,e5,if_pos rfl]
 simp only [List.append_assoc,List.append_nil,List.nil_append]
theorem QCD (m:M6) (F:List UInt8) (hF:F.length=4):Qoy (pk6 m F)=true:=by
 have hl:=Qf6 m F hF
 rw [QdK]
 unfold pk6
 dsimp only
 rw [hl]
 simp
theorem QFx (m:M6) (F:List UInt8) (h:m.Ok):(pk6 m F).Ok:=⟨h.seq,h.time,h.src,fun n hn=>by cases hn⟩
theorem QwK (m:M6) (F:List UInt8) (hF:F.length=4):(QjN m F).all (Qhm 1)=true:=by
 unfold QjN
 simp only [List.all_cons,List.all_nil,Bool.and_true,Bool.and_eq_true]
 refine ⟨(Qf2 _ _).2 ?_,(Qf2 _ _).2 ?_,(Qf2 _ _).2 ?_⟩
 ·simp only [List.length_append,Qaj];decide
 ·simp only [List.length_append,Qaj];decide
 ·simp only [hF];decide
theorem Qty (m:M6) (F:List UInt8) (hF:F.length=4):QdZ 1 (QjN m F)=(48862,Qcp 1 (QjN m F),0):=by
 have e:Qbw 1=1:=rfl
 have hl:=Qf6 m F hF
 unfold QdZ
 rw [e,if_neg (by decide),QwK m F hF,hl,if_pos (by decide)]
 rfl
def Qf7 (m:M6) (F:List UInt8):List UInt8:=Qfk m++F++m.data
theorem QgL (m:M6) (F:List UInt8) (hF:F.length=4):(Qf7 m F).length=m.data.length+28:=by
 unfold Qf7
 simp only [List.length_append,Qdu,hF]
 omega
def Qcb (m:M6):List UInt8:=if QoG m=true then Qf4 (Qfk m) m.data else []
theorem QE4 (m:M6):Qqp (Qf7 m [0,0,0,0]) 24=Qf4 (Qfk m) m.data:=by
 have hl:=QgL m [0,0,0,0] rfl
 have ho:Qhb (Qf7 m [0,0,0,0]) 24=true:=decide_eq_true (by rw [hl];omega)
 unfold Qqp
 rw [if_pos ho]
 unfold Qf7
 have e1:(Qfk m++[0,0,0,0]++m.data).take (24:Int).toNat=Qfk m:=by
  rw [List.append_assoc]
  exact List.take_left' (Qdu m)
 have e2:(Qfk m++[0,0,0,0]++m.data).drop ((24:Int).toNat+4)=m.data:=List.drop_left' (by rw [List.length_append,Qdu];rfl)
 rw [e1,e2]
def rd6 (p:P4) (l:List E5):M6:=
 let a:=(find5' l 1)
 let b:=(find5' l 2)
 ⟨p.src,p.seq,p.time,QaP (QbB a 1),QaP (QbB (Qct a 0 1) 2),QaP (QbB b 1),QaP (QbB (Qct b 0 1) 1),p.data⟩
where find5' (l:List E5) (id:Int):List UInt8:=((l.find? fun x=>decide (x.id=id)).map (·.data)).getD []
def Qa4 (s:List UInt8):M6 × Int:=
 if 1500<s.length then (no6,3) else if rem s≠0 then (no6,4) else if (Qbe s).2≠0 then (no6,(Qbe s).2) else if (Qbe s).1.hasExt=false then (no6,5)
 else if (Qbk (Qbe s).1.profile (Qbe s).1.ext).2.2≠0 then (no6,(Qbk (Qbe s).1.profile (Qbe s).1.ext).2.2)
 else if Qcb (rd6 (Qbe s).1 (Qbk (Qbe s).1.profile (Qbe s).1.ext).2.1)=s then (rd6 (Qbe s).1 (Qbk (Qbe s).1.profile (Qbe s).1.ext).2.1,0) else (no6,1)
theorem QwL (m:M6) (F:List UInt8) (ho:m.Ok) (hm:QoG m=true):rd6 (pk6 m F) (QjN m F)=m:=by
 obtain ⟨⟨m1,m2⟩,⟨m3,m4⟩,⟨m5,m6⟩,m7⟩:=(QkC m).1 hm
 obtain ⟨o1,o2,o3,o4⟩:=ho
 have e1:rd6.find5' (QjN m F) 1=QaK m.path 1++QaK m.pseq 2:=rfl
 have e2:rd6.find5' (QjN m F) 2=QaK m.idx 1++QaK m.cnt 1:=rfl
 have g1:(QaP (QaK m.path 1):Int)=m.path:=QdL _ 1 256 rfl (by omega)
 have g2:(QaP (QaK m.pseq 2):Int)=m.pseq:=QdL _ 2 65536 rfl (by omega)
 have g3:(QaP (QaK m.idx 1):Int)=m.idx:=QdL _ 1 256 rfl (by omega)
 have g4:(QaP (QaK m.cnt 1):Int)=m.cnt:=QdL _ 1 256 rfl (by omega)
 have t:∀ (a b:List UInt8) (k:Nat),a.length=k→QbB (a++b) k=a∧Qct (a++b) 0 k=b:=fun a b k h=>by
  unfold QbB Qct
  rw [if_pos (by rw [List.length_append];omega),if_pos (by rw [List.length_append];omega),Int.toNat_natCast]
  exact ⟨List.take_left' h,List.drop_left' h⟩
 have t0:∀ (a:List UInt8) (k:Nat),a.length=k→QbB a k=a:=fun a k h=>by
  unfold QbB
  rw [if_pos (by omega),Int.toNat_natCast,List.take_of_length_le (by omega)]
 obtain ⟨a1,a2⟩:=t (QaK m.path 1) (QaK m.pseq 2) 1 (Qaj _ 1)
 obtain ⟨b1,b2⟩:=t (QaK m.idx 1) (QaK m.cnt 1) 1 (Qaj _ 1)
 have a3:=t0 (QaK m.pseq 2) 2 (Qaj _ 2)
 have b3:=t0 (QaK m.cnt 1) 1 (Qaj _ 1)
 have c1:((1:Nat):Int)=1:=rfl
 have c2:((2:Nat):Int)=2:=rfl
 rw [c1] at a1 a2 b1 b2 b3
 rw [c2] at a3
 unfold rd6
 dsimp only
 rw [e1,e2,a1,a2,b1,b2,a3,b3,g1,g2,g3,g4]
 rfl
theorem QiI (h t:List UInt8):(Qf4 h t).length=h.length+4+t.length:=by
 unfold Qf4
 rw [List.length_append,List.length_append,QgK]
theorem Qfl (m:M6) (ho:m.Ok) (hm:QoG m=true):Qa4 (Qcb m)=(m,0):=by
 have hp:Qcb m=Qf4 (Qfk m) m.data:=by unfold Qcb;rw [if_pos hm]
 obtain ⟨F,hF⟩:∃ F,F=QcV (Qfk m) m.data:=⟨_,rfl⟩
 have hFl:F.length=4:=by rw [hF];exact QgK _ _
 have hb:Qcb m=QeP (pk6 m F):=by rw [hp,QCC m F hFl,hF];rfl
 have hl:=QiI (Qfk m) m.data
 rw [Qdu] at hl
 have hd:=((QkC m).1 hm).2.2.2
 have h4:=Qqa (pk6 m F) (QFx m F ho) (QCD m F hFl)
 have h5:Qbk 48862 (Qcp 1 (QjN m F))=(1,QjN m F,0):=by
  have:=Qnf 1 (QjN m F) (by rw [Qty m F hFl])
  rwa [Qty m F hFl] at this
 unfold Qa4
 rw [if_neg (by rw [hp,hl];omega),if_neg (by rw [hp,Qtt];decide)]
 have h4':Qbe (Qcb m)=(pk6 m F,0):=by rw [hb];exact h4
 rw [h4']
 dsimp only
 have hpr:(pk6 m F).profile=48862:=rfl
 have hex:(pk6 m F).ext=Qcp 1 (QjN m F):=rfl
 have hhx:(pk6 m F).hasExt=true:=rfl
 rw [hpr,hex,hhx,h5]
 dsimp only
 rw [if_neg (by decide),if_neg (by decide),if_neg (by decide),QwL m F ho hm,if_pos rfl]
theorem Ql0 (m:M6):Qcb m=[]↔QoG m=false:=by
 unfold Qcb
 constructor
 ·intro h
  cases hm:QoG m with
  | false=>rfl
  | true=>
   rw [hm,if_pos rfl] at h
   have:=congrArg List.length h
   rw [QiI,Qdu] at this
   simp at this
 ·intro h;rw [h,if_neg (by decide)]
end Go.Proofs.YthfocmakkeonoaaGreatDoor
namespace Go.Proofs.YthfocmakkeonoaaGreatDoor
structure En where
 id:Int
 up:Bool
 rate:Int
deriving DecidableEq
structure Tb where
 most:Int
 ver:Int
 l:List En
abbrev Qx3 (l:List En):Prop:=l.Pairwise fun a b=>a.id<b.id
def atP (l:List En) (id:Int):Nat:=(l.takeWhile fun e=>decide (e.id<id)).length
def QDD (l:List En) (id:Int):Bool:=l.any fun e=>decide (e.id=id)
def QGl (l:List En) (e:En):List En:=l.filter (fun x=>decide (x.id<e.id))++e::l.filter (fun x=>decide (e.id<x.id))
theorem QkD {α:Type} (p:α→Bool):∀ l:List α,l.takeWhile p++l.dropWhile p=l
 | []=>rfl
 | x::xs=>by
  by_cases h:p x=true
  ·simp [h,QkD p xs]
  ·simp [h]
theorem Qtz {l:List En} (h:Qx3 l) (id:Int):l.takeWhile (fun e=>decide (e.id<id))=l.filter fun e=>decide (e.id<id):=by
 induction l with
 | nil=>rfl
 | cons x xs ih=>
  have h1:=List.pairwise_cons.1 h
  by_cases hx:x.id<id
  ·simp [hx,ih h1.2]
  ·have:xs.filter (fun e=>decide (e.id<id))=[]:=List.filter_eq_nil_iff.2 fun y hy=>by have:=h1.1 y hy;simp;omega
   simp [hx,this]
theorem QtA {l:List En} (h:Qx3 l) (id:Int):l.dropWhile (fun e=>decide (e.id<id))=l.filter fun e=>decide (id≤e.id):=by
 induction l with
 | nil=>rfl
 | cons x xs ih=>
  have h1:=List.pairwise_cons.1 h
  by_cases hx:x.id<id
  ·have:¬id≤x.id:=by omega
   simp [hx,ih h1.2,this]
  ·have hx2:id≤x.id:=by omega
   have:xs.filter (fun e=>decide (id≤e.id))=xs:=List.filter_eq_self.2 fun y hy=>by have:=h1.1 y hy;simp;omega
   simp [hx,hx2,this]
theorem QtB {l:List En} (h:Qx3 l) (id:Int):l.take (atP l id)=l.filter fun e=>decide (e.id<id):=by
 rw [←Qtz h id]
 have e:=QkD (fun e:En=>decide (e.id<id)) l
 calc l.take (atP l id)=(l.takeWhile (fun e=>decide (e.id<id))++l.dropWhile fun e=>decide (e.id<id)).take (l.takeWhile fun e=>decide (e.id<id)).length:=by rw [e];rfl
  _=_:=List.take_left
theorem QtC {l:List En} (h:Qx3 l) (id:Int):l.drop (atP l id)=l.filter fun e=>decide (id≤e.id):=by
 rw [←QtA h id]
 have e:=QkD (fun e:En=>decide (e.id<id)) l
 calc l.drop (atP l id)=(l.takeWhile (fun e=>decide (e.id<id))++l.dropWhile fun e=>decide (e.id<id)).drop (l.takeWhile fun e=>decide (e.id<id)).length:=by rw [e];rfl
  _=_:=List.drop_left
theorem QwM {l:List En} {id:Int}:QDD l id=true↔∃ e∈l,e.id=id:=by unfold QDD;simp
theorem Qx4 {l:List En} (h:Qx3 l) {i j:Nat} (hi:i<j) (hj:j<l.length):(l[i]'(by omega)).id<(l[j]).id:=List.pairwise_iff_getElem.1 h i j (by omega) hj hi
theorem QCE {l:List En} (h:Qx3 l) {id:Int} {k:Nat} (hk:k<l.length):k<atP l id↔(l[k]).id<id:=by
 constructor
 ·intro h1
  have:l[k]∈l.take (atP l id):=by
   rw [List.mem_take_iff_getElem]
   exact ⟨k,by omega,rfl⟩
  rw [QtB h] at this
  simpa using (List.mem_filter.1 this).2
 ·intro h1
  refine Nat.lt_of_not_le fun h2=>?_
  have:l[k]∈l.drop (atP l id):=by
   rw [List.mem_drop_iff_getElem]
   exact ⟨k-atP l id,by omega,by congr 1;omega⟩
  rw [QtC h] at this
  have:=(List.mem_filter.1 this).2
  simp at this;omega
theorem QCF {l:List En} (h:Qx3 l) {id:Int} (hh:QDD l id=true):∃ hl:atP l id<l.length,(l[atP l id]).id=id:=by
 obtain ⟨e,h1,h2⟩:=QwM.1 hh
 obtain ⟨k,hk,rfl⟩:=List.mem_iff_getElem.1 h1
 have h3:¬k<atP l id:=fun h3=>by have:=(QCE h hk).1 h3;omega
 have h4:atP l id<l.length:=by omega
 refine ⟨h4,?_⟩
 have h5:¬(l[atP l id]).id<id:=fun h5=>by have:=(QCE h h4).2 h5;omega
 rcases Nat.lt_or_ge (atP l id) k with h6 | h6
 ·have:=Qx4 h h6 hk;omega
 ·have:atP l id=k:=by omega
  simp only [this];exact h2
theorem set_set {l:List En} (h:Qx3 l) (e:En) (hh:QDD l e.id=true):l.set (atP l e.id) e=QGl l e:=by
 obtain ⟨h1,h2⟩:=QCF h hh
 have h3:l.drop (atP l e.id)=l[atP l e.id]::l.drop (atP l e.id+1):=List.drop_eq_getElem_cons h1
 have h4:=QtC h e.id
 rw [h3] at h4
 have h5:l.drop (atP l e.id+1)=l.filter fun x=>decide (e.id<x.id):=by
  have h6:(l.filter fun x=>decide (e.id≤x.id)).filter (fun x=>decide (e.id<x.id))=l.filter fun x=>decide (e.id<x.id):=by
   rw [List.filter_filter]
   refine List.filter_congr fun y hy=>?_
   by_cases h7:e.id<y.id
   ·have:e.id≤y.id:=by omega
    simp [h7,this]
   ·simp [h7]
  rw [←h6,←h4]
  have h7:¬e.id<(l[atP l e.id]).id:=by omega
  rw [List.filter_cons_of_neg (by simpa using h7)]
  symm
  refine List.filter_eq_self.2 fun y hy=>?_
  obtain ⟨k,hk,rfl⟩:=List.mem_iff_getElem.1 hy
  rw [List.getElem_drop]
  have:=Qx4 h (i:=atP l e.id) (j:=atP l e.id+1+k) (by omega) (by simp at hk;omega)
  simp;omega
 rw [List.set_eq_take_append_cons_drop,if_pos h1,QtB h,h5];rfl
end Go.Proofs.YthfocmakkeonoaaGreatDoor
namespace Go.Proofs.YthfocmakkeonoaaGreatDoor
open Go.RowKit
structure Fl where
 id:Int
 s:Sr
 j:J15
 te:Int
 tc:Int
 by':Int
structure Ct where
 md:Int
 bd:Int
 fo:Int
 la:Int
 tw:Int
 rp:Int
structure RC where
 src:Int
 ab:Int
 nm:List UInt8
 b1:Int
 b2:Int
 b3:Int
 g1:Int
 g2:Int
 g3:Int
 g4:Int
 lo:Int
 hi:Int
 ev:Int
 pt:Int
structure Rx where
 c:RC
 tb:Tb
 fl:List Fl
 kp:List (Int × Int × Int)
 any:Bool
 gr:Int
 gp:Gp
 fr:Bu
 dl:Dl
 due:Int
 gone:Bool
 ct:Ct
def atR (l:List Fl) (id:Int):Nat:=l.findIdx fun f=>decide (f.id=id)
def QkE (id n:Int):Fl:=⟨id,QxW n,⟨0,0,false⟩,0,0,0⟩
def Qu4 (l:List Fl) (id:Int):Bool:=decide (atR l id<l.length)
def Qdi (l:List Fl) (id n:Int):List Fl:=if Qu4 l id=true then l else l++[QkE id n]
def flR (f:Fl) (n b:Int):Fl:={ f with s:=(QxX f.s n).1,by':=f.by'+b }
def QtD (l:List Fl) (id n b:Int):List Fl:=(Qdi l id n).set (atR l id) (flR (((Qdi l id n)[atR l id]?).getD (QkE id n)) n b)
def Qhn (x:Rx) (q:Int):Int:=if x.any=true then QdI x.gr q else q
def grR (x:Rx) (q:Int):Int:=if x.any=false∨x.gr<Qhn x q then Qhn x q else x.gr
def QwN (l:List Fl):Int:=l.foldl (fun n f=>max n (Qg9 f.j)) 0
def QoH (l:List Fl) (k:Nat) (sent now:Int):List Fl:=l.modify k fun f=>{ f with j:=Qp4 f.j sent now }
def QbH (x:Rx) (m:M6) (now len:Int):Rx:=
 let l:=QtD x.fl m.path m.pseq len
 let k:=atR x.fl m.path
 let r:=Qhj x.fr m.time.toNat m.idx m.cnt m.data now
 let y:Rx:={ x with fl:=l,any:=true,gr:=grR x m.seq,gp:=(QeO x.gp (Qhn x m.seq) now).1,fr:=r.1,ct:={ x.ct with md:=x.ct.md+1 } }
 if r.2.1=1∨r.2.1=2 then { y with fl:=QoH l k m.time now,dl:=Qp2 x.dl (QwN (QoH l k m.time now)) }
 else if r.2.1=5 then { y with dl:=QjG x.dl 1,ct:={ y.ct with la:=y.ct.la+1 } }
 else if r.2.1=3 then { y with ct:={ y.ct with tw:=y.ct.tw+1 } }
 else y
def QaY (x:Rx) (path now:Int) (s:List UInt8):Rx × Int:=
 let r:=Qa4 s
 if r.2≠0 then ({ x with ct:={ x.ct with bd:=x.ct.bd+1 } },r.2)
 else if r.1.src≠x.c.ab then ({ x with ct:={ x.ct with fo:=x.ct.fo+1 } },5)
 else if r.1.path≠path then ({ x with ct:={ x.ct with fo:=x.ct.fo+1 } },6)
 else (QbH x r.1 now s.length,0)
theorem Qx5 (l:List Fl) (id:Int):atR l id≤l.length:=List.findIdx_le_length
theorem Qhy (l:List Fl) (id n:Int):∃ f,(Qdi l id n)[atR l id]? = some f∧f.id=id:=by
 unfold Qdi Qu4
 by_cases h:atR l id<l.length
 ·rw [decide_eq_true h,if_pos rfl]
  refine ⟨l[atR l id],List.getElem?_eq_getElem h,?_⟩
  have:=List.findIdx_getElem (xs:=l) (p:=fun f:Fl=>decide (f.id=id)) (w:=h)
  exact of_decide_eq_true this
 ·rw [decide_eq_false h,if_neg (by decide)]
  have e:atR l id=l.length:=by have:=Qx5 l id;omega
  refine ⟨QkE id n,?_,rfl⟩
  rw [e]
  simp
structure SimR (x y:Rx):Prop where
 c:y.c=x.c
 tb:y.tb=x.tb
 any:y.any=x.any
 gr:y.gr=x.gr
 gp:y.gp=x.gp
 fr:y.fr=x.fr
 dl:y.dl=x.dl
 due:y.due=x.due
 fl:y.fl.map (fun f=>(f.id,f.j))=x.fl.map (fun f=>(f.id,f.j))
theorem Qnm:∀ (l l':List Fl) (id:Int),l'.map (fun f=>(f.id,f.j))=l.map (fun f=>(f.id,f.j))→atR l' id=atR l id
 | [],[],_,_=>rfl
 | f::l,g::l',id,h=>by
  simp only [List.map_cons,List.cons.injEq,Prod.mk.injEq] at h
  unfold atR
  rw [List.findIdx_cons,List.findIdx_cons,h.1.1]
  have:=Qnm l l' id h.2
  unfold atR at this
  rw [this]
 | [],_::_,_,h=>by simp at h
 | _::_,[],_,h=>by simp at h
theorem QwO {l l':List Fl} (h:l'.map (fun f=>(f.id,f.j))=l.map (fun f=>(f.id,f.j))):QwN l'=QwN l:=by
 have key:∀ (l:List Fl) (n:Int),l.foldl (fun n f=>max n (Qg9 f.j)) n=(l.map fun f=>(f.id,f.j)).foldl (fun n p=>max n (Qg9 p.2)) n:=by
  intro l
  induction l with
  | nil=>intro n;rfl
  | cons f l ih=>intro n;simp only [List.foldl_cons,List.map_cons];exact ih _
 unfold QwN
 rw [key,key,h]
theorem Qhz (l:List Fl) (id n b:Int):(QtD l id n b).map (fun f=>(f.id,f.j))=(Qdi l id n).map (fun f=>(f.id,f.j)):=by
 obtain ⟨f,h1,h2⟩:=Qhy l id n
 unfold QtD
 rw [h1,List.map_set]
 have:(((Qdi l id n).map fun f=>(f.id,f.j))[atR l id]?)=some (f.id,f.j):=by rw [List.getElem?_map,h1];rfl
 obtain ⟨hl,he⟩:=List.getElem?_eq_some_iff.1 this
 refine List.ext_getElem (by simp) fun i h3 h4=>?_
 rw [List.getElem_set]
 split
 ·rename_i e
  subst e
  exact he.symm
 ·rfl
theorem QtE {l l':List Fl} (h:l'.map (fun f=>(f.id,f.j))=l.map (fun f=>(f.id,f.j))) (id n:Int):(Qdi l' id n).map (fun f=>(f.id,f.j))=(Qdi l id n).map (fun f=>(f.id,f.j)):=by
 have h1:=Qnm l l' id h
 have h2:l'.length=l.length:=by have:=congrArg List.length h;simpa using this
 unfold Qdi Qu4
 rw [h1,h2]
 split
 ·exact h
 ·rw [List.map_append,List.map_append,h]
theorem QwP {l l':List Fl} (h:l'.map (fun f=>(f.id,f.j))=l.map (fun f=>(f.id,f.j))) (k:Nat) (a b:Int):(QoH l' k a b).map (fun f=>(f.id,f.j))=(QoH l k a b).map (fun f=>(f.id,f.j)):=by
 have key:∀ (l:List Fl) (k:Nat),(QoH l k a b).map (fun f=>(f.id,f.j))=(l.map fun f=>(f.id,f.j)).modify k fun p=>(p.1,Qp4 p.2 a b):=by
  intro l
  induction l with
  | nil=>intro k;simp [QoH]
  | cons f l ih=>
   intro k
   cases k with
   | zero=>rfl
   | succ k=>
    have:=ih k
    unfold QoH at this ⊢
    simp only [List.modify_succ_cons,List.map_cons]
    rw [this]
 rw [key,key,h]
theorem QtF {x y:Rx} (h:SimR x y) (m:M6) (now len:Int):SimR (QbH x m now len) (QbH y m now len):=by
 obtain ⟨h1,ht,h2,h3,h4,h5,h6,h7,h8⟩:=h
 have hn:Qhn y m.seq=Qhn x m.seq:=by unfold Qhn;rw [h2,h3]
 have hg:grR y m.seq=grR x m.seq:=by unfold grR;rw [h2,h3,hn]
 have hk:=Qnm x.fl y.fl m.path h8
 have hl:(QtD y.fl m.path m.pseq len).map (fun f=>(f.id,f.j))=(QtD x.fl m.path m.pseq len).map (fun f=>(f.id,f.j)):=by
  rw [Qhz,Qhz,QtE h8]
 have hj:=QwP hl (atR x.fl m.path) m.time now
 have hm:=QwO hj
 unfold QbH
 dsimp only
 rw [hn,hg,hk,h5,h4,h6]
 generalize Qhj x.fr m.time.toNat m.idx m.cnt m.data now=r
 split
 ·exact ⟨h1,ht,rfl,rfl,rfl,rfl,by dsimp only;rw [hm],h7,hj⟩
 ·split
  ·exact ⟨h1,ht,rfl,rfl,rfl,rfl,rfl,h7,hl⟩
  ·split
   ·exact ⟨h1,ht,rfl,rfl,rfl,rfl,(by first | exact h6 | rfl),h7,hl⟩
   ·exact ⟨h1,ht,rfl,rfl,rfl,rfl,(by first | exact h6 | rfl),h7,hl⟩
theorem QjO {x y:Rx} (h:SimR x y) (path now:Int) (s:List UInt8):SimR (QaY x path now s).1 (QaY y path now s).1∧(QaY y path now s).2=(QaY x path now s).2:=by
 have hh:=h
 obtain ⟨h1,ht,h2,h3,h4,h5,h6,h7,h8⟩:=hh
 unfold QaY
 rw [h1]
 dsimp only
 generalize Qa4 s=r
 split
 ·exact ⟨⟨(by first | exact h1 | rfl),ht,h2,h3,h4,h5,h6,h7,h8⟩,rfl⟩
 ·split
  ·exact ⟨⟨(by first | exact h1 | rfl),ht,h2,h3,h4,h5,h6,h7,h8⟩,rfl⟩
  ·split
   ·exact ⟨⟨(by first | exact h1 | rfl),ht,h2,h3,h4,h5,h6,h7,h8⟩,rfl⟩
   ·exact ⟨QtF h r.1 now s.length,rfl⟩
end Go.Proofs.YthfocmakkeonoaaGreatDoor
namespace Go.Proofs.YthfocmakkeonoaaGreatDoor
open Go.RowKit
def QoI (a b:Int):Int:=if a<b then -1 else if b<a then 1 else 0
theorem QtG (a:Int):Qan Tryz.prog 179 [.ca (.val (vi a))] [] (.ca (.val (vb false))) []:=by
 refine Qaa Tryz.func179 rfl Tryz.ntmps179 Tryz.results179 ⟨by decide,by simp⟩ fun C hC=>?_
 repeat' first | refine sp_ ?_ | exact ex0 | refine QaC (fun h=>?_) (fun h=>?_) | refine Qav (fun h=>?_) (fun h=>?_) | refine QaB (fun h=>?_) (fun h=>?_) | exact re0 []
theorem QzZ (a b:Int):Qan Tryz.prog 135 [.ca (.val (vi a)),.ca (.val (vi b))] [] (.ca (.val (vi (QoI a b)))) []:=by
 have c1:=QtG a
 have c2:=QtG b
 unfold QoI
 by_cases h1:a<b
 ·rw [if_pos h1]
  refine Qaa Tryz.func135 rfl Tryz.ntmps135 Tryz.results135 ⟨by decide,by simp⟩ fun C hC=>?_
  repeat' first | refine sp_ ?_ | exact ex0 | refine Qab Tryz.call179 (c1) [] ex1 ?_ | refine Qab Tryz.call179 (c2) [] ex1 ?_ | refine QaC (fun h=>?_) (fun h=>?_) | refine Qav (fun h=>?_) (fun h=>?_) | refine QaB (fun h=>?_) (fun h=>?_) | exact re0 []
 ·rw [if_neg h1]
  by_cases h2:b<a
  ·rw [if_pos h2]
   refine Qaa Tryz.func135 rfl Tryz.ntmps135 Tryz.results135 ⟨by decide,by simp⟩ fun C hC=>?_
   repeat' first | refine sp_ ?_ | exact ex0 | refine Qab Tryz.call179 (c1) [] ex1 ?_ | refine Qab Tryz.call179 (c2) [] ex1 ?_ | refine QaC (fun h=>?_) (fun h=>?_) | refine Qav (fun h=>?_) (fun h=>?_) | refine QaB (fun h=>?_) (fun h=>?_) | exact re0 []
  ·rw [if_neg h2]
   refine Qaa Tryz.func135 rfl Tryz.ntmps135 Tryz.results135 ⟨by decide,by simp⟩ fun C hC=>?_
   repeat' first | refine sp_ ?_ | exact ex0 | refine Qab Tryz.call179 (c1) [] ex1 ?_ | refine Qab Tryz.call179 (c2) [] ex1 ?_ | refine QaC (fun h=>?_) (fun h=>?_) | refine Qav (fun h=>?_) (fun h=>?_) | refine QaB (fun h=>?_) (fun h=>?_) | exact re0 []
def Qdv (c:Nat→Int):Nat→Nat
 | 0=>0
 | n+1=>if Qdv c n=n∧c n<0 then n+1 else Qdv c n
theorem Qf8 (c:Nat→Int) (n:Nat):∀ i,i≤n→(∀ k,k<i→c k<0)→(∀ k,i≤k→k<n→0≤c k)→Qdv c n=i:=by
 induction n with
 | zero=>intro i hi _ _;simp [Qdv];omega
 | succ n ih=>
  intro i hi h1 h2
  unfold Qdv
  by_cases e:i=n+1
  ·subst e
   have:=ih n (Nat.le_refl _) (fun k hk=>h1 k (by omega)) (fun k a b=>by omega)
   rw [if_pos ⟨this,h1 n (by omega)⟩]
  ·have:=ih i (by omega) h1 (fun k a b=>h2 k a (by omega))
   have h3:=h2 n (by omega) (by omega)
   rw [if_neg (fun h=>by omega)]
   exact this
theorem Qc9 (a b:Int):QoI a b<0↔a<b:=by unfold QoI;split <;> (try split) <;> omega
theorem QkF (a b:Int):QoI a b=0↔a=b:=by unfold QoI;split <;> (try split) <;> omega
end Go.Proofs.YthfocmakkeonoaaGreatDoor
